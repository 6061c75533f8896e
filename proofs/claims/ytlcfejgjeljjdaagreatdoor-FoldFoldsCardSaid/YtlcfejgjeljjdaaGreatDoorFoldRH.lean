/- A constant as a tree, a part with its constants reckoned: th -/
import Derived.Test.YtlcfejgjeljjdaaGreatDoorMg24
import Derived.Test.YtlcfejgjeljjdaaGreatDoorFoldL
namespace Go.Proofs.YtlcfejgjeljjdaaGreatDoor
open Go.RowKit
def wrNds (o:Option Tr):List Nd:=match o with
 | none=>[]
 | some W=>W.flat
def NumEnd (R:List Nd) (w:World) (e:Ending) (w':World):Prop:=(∃ v,e = .returned v ∧ NdRow w' w.heap.size v R) ∧ Below w.heap.size w w'
set_option maxHeartbeats 4000000 in
theorem rnumber_ok (n:Int) (t:ByteArray) (at_:Int) (hk:asI n t = n) (w:World):Calls Tryz.prog 76 #[.int .i64 n,.string t,.int .i64 at_] w (NumEnd (wrNds (writeT (t,n) at_)) w):=by
 by_cases hu:t = uText12
 ·have hr:=asI_uback (n:=n) (by rw [← hu];exact hk)
  have HW:=Hd (show wrNds (writeT (t,n) at_) = [⟨1,0,at_,n,⟨#[]⟩,t⟩] from by
   unfold writeT
   rw [if_neg (by simp only [not_or,not_and,Decidable.not_not];exact ⟨fun _=>hu,by omega⟩),if_pos hr.1]
   simp [wrNds,Tr.flat,flatAll])
  have t1:(t.toList == [117]) = true:=by rw [hu];exact lit_eq rfl rfl
  clear hu hk hr
  rw [HW.out]
  go_enter Tryz.func76,Tryz.ntmps76
  go_wp2_with fail
  go_ret
  exact ⟨⟨_,rfl,row_lit w (Nat.le_refl _) _ [⟨1,0,at_,n,⟨#[]⟩,t⟩] rfl (by simp)⟩,(Below.refl _ _).alloc (Nat.le_refl _) _⟩
 have t1:(t.toList == [117]) = false:=lit_ne (fun e=>hu (bytes_of e))
 by_cases hi:t = iText12
 ·have hr:=asI_iback (n:=n) (by rw [← hi];exact hk)
  have t2:(t.toList == [105]) = true:=by rw [hi];exact lit_eq rfl rfl
  by_cases h0:0 ≤ n
  ·have HW:=Hd (show wrNds (writeT (t,n) at_) = [⟨1,0,at_,n,⟨#[]⟩,t⟩] from by
    unfold writeT
    rw [if_neg (by simp only [not_or,not_and,Decidable.not_not];exact ⟨fun h=>absurd hi h,by omega⟩),if_pos h0]
    simp [wrNds,Tr.flat,flatAll])
   have t3:decide (0 ≤ n) = true:=by simpa using h0
   clear hu hk hr hi h0
   rw [HW.out]
   go_enter Tryz.func76,Tryz.ntmps76
   go_wp2_with fail
   go_ret
   exact ⟨⟨_,rfl,row_lit w (Nat.le_refl _) _ [⟨1,0,at_,n,⟨#[]⟩,t⟩] rfl (by simp)⟩,(Below.refl _ _).alloc (Nat.le_refl _) _⟩
  ·have t3:decide (0 ≤ n) = false:=by simpa using h0
   by_cases hm:n = -2147483648
   ·have HW:=Hd (show wrNds (writeT (t,n) at_) = [] from by unfold writeT;rw [if_pos (.inr hm)];rfl)
    have t4:decide (-2147483648 < n) = false:=by simp;omega
    clear hu hk hr hi h0 hm
    rw [HW.out]
    go_enter Tryz.func76,Tryz.ntmps76
    go_wp2_with fail
    go_ret
    exact ⟨⟨_,rfl,nd_row_nil _ _⟩,Below.refl _ _⟩
   ·have HW:=Hd (show wrNds (writeT (t,n) at_) = [⟨1,0,at_,-n,⟨#[]⟩,t⟩,⟨4,1,at_,0,mSub,⟨#[]⟩⟩] from by
     unfold writeT
     rw [if_neg (by simp only [not_or,not_and,Decidable.not_not];exact ⟨fun h=>absurd hi h,hm⟩),if_neg h0,← hi]
     simp [wrNds,Tr.flat,flatAll])
    have t4:decide (-2147483648 < n) = true:=by simp;omega
    have e1:IntKind.i64.wrap (-n) = -n:=by rw [IntKind.wrap_i64];omega
    clear hu hk hr hi h0 hm
    rw [HW.out]
    go_enter Tryz.func76,Tryz.ntmps76
    go_wp2_with fail
    go_ret
    exact ⟨⟨_,rfl,row_lit w (Nat.le_refl _) _ [⟨1,0,at_,-n,⟨#[]⟩,t⟩,⟨4,1,at_,0,mSub,⟨#[]⟩⟩] rfl (by simp)⟩,(Below.refl _ _).alloc (Nat.le_refl _) _⟩
 ·have t2:(t.toList == [105]) = false:=lit_ne (fun e=>hi (bytes_of e))
  have HW:=Hd (show wrNds (writeT (t,n) at_) = [] from by unfold writeT;rw [if_pos (.inl ⟨hi,hu⟩)];rfl)
  clear hu hk hi
  rw [HW.out]
  go_enter Tryz.func76,Tryz.ntmps76
  go_wp2_with fail
  go_ret
  exact ⟨⟨_,rfl,nd_row_nil _ _⟩,Below.refl _ _⟩
structure FlInv (w:World) (P:List Nat) (F:Nat → List Nd) (wy:World) (v:Value) (i:Nat):Prop where
 row:NdRow wy w.heap.size v ((P.take i).map F).flatten
 below:Below w.heap.size w wy
theorem fl_start (w:World) (P:List Nat) (F:Nat → List Nd):FlInv w P F (w.alloc (.cells #[] 42)) (.slice (some ⟨w.heap.size,0,none⟩) 0 0) 0:=
 ⟨nil_row w (Nat.le_refl _),(Below.refl _ _).alloc (Nat.le_refl _) _⟩
theorem fl_next {w wy w5 w6:World} {P:List Nat} {F:Nat → List Nd} {v v':Value} {i p:Nat} (h:FlInv w P F wy v i) (hp:P[i]? = some p) (hb:Below wy.heap.size wy w5)
 (hown:w6.ownsRow w.heap.size 42 6 v' (((P.take i).map F).flatten.length + (F p).length) (((P.take i).map F).flatten.flatMap ndCells ++ (F p).flatMap ndCells)) (hgrow:w5.grownBy w6 v.ownBlock):FlInv w P F w6 v' (i + 1):=by
 have h5:=h.below.trans (hb.mono h.below.size)
 refine ⟨?_,h5.grown hgrow h5.size (fun q e=>?_)⟩
 ·have e:((P.take (i + 1)).map F).flatten = ((P.take i).map F).flatten ++ F p:=by
   rw [List.take_add_one,hp,Option.toList_some,List.map_append,List.flatten_append]
   simp
  unfold NdRow
  rw [e,List.length_append,List.flatMap_append]
  exact hown
 ·rcases own_blk h.row with hn | ⟨f,hf,h1,h2⟩
  ·rw [hn] at e;cases e
  ·rw [hf] at e
   have:=Option.some.inj e
   omega
theorem fl_len {P:List Nat} {F:Nat → List Nd} (i:Nat):((P.take i).map F).flatten.length ≤ (P.map F).flatten.length:=by
 have:P.map F = (P.take i).map F ++ (P.drop i).map F:=by rw [← List.map_append,List.take_append_drop]
 rw [this,List.flatten_append,List.length_append];omega
theorem fl_step_len {P:List Nat} {F:Nat → List Nd} {i p:Nat} (hp:P[i]? = some p):((P.take i).map F).flatten.length + (F p).length ≤ (P.map F).flatten.length:=by
 have h:=fl_len (P:=P) (F:=F) (i + 1)
 have e:((P.take (i + 1)).map F).flatten = ((P.take i).map F).flatten ++ F p:=by
  rw [List.take_add_one,hp,Option.toList_some,List.map_append,List.flatten_append]
  simp
 rw [e,List.length_append] at h
 exact h
theorem row_slice {w:World} {base:Nat} {v:Value} {R:List Nd} (h:NdRow w base v R):∃ a c,v = .slice a R.length c:=by
 obtain ⟨a,c,e,_⟩:=own_sl nd_len h rfl
 exact ⟨a,c,e⟩
theorem fold_tail {w w2 wp wr w7:World} {v v':Value} {J:List Nd} {x:Nd} {o:Obj} (h2:Below w.heap.size w w2) (hp:Below w2.heap.size w2 wp) (hr:Below wp.heap.size wp wr) (ho:wr.ownsRow wp.heap.size 42 6 v J.length (J.flatMap ndCells))
 (hown:w7.ownsRow wp.heap.size 42 6 v' (J.length + 1) (J.flatMap ndCells ++ ndCells x)) (hgrow:(wr.alloc o).grownBy w7 v.ownBlock):FoldEnd (J ++ [x]) w (.returned v') w7:=by
 have hwp:=h2.trans (hp.mono h2.size)
 have hwr:=hwp.trans (hr.mono hwp.size)
 refine ⟨⟨v',rfl,?_⟩,(hwr.alloc hwr.size o).grown hgrow (hwr.alloc hwr.size o).size fun q e=>?_⟩
 ·unfold NdRow
  rw [List.length_append,List.flatMap_append]
  have:=own_le9 hown hwp.size
  simpa using this
 ·rcases own_blk ho with hn | ⟨f,hf,h1,h3⟩
  ·rw [hn] at e;cases e
  ·rw [hf] at e
   have:=Option.some.inj e
   have:=hwp.size
   omega
set_option maxRecDepth 100000 in
set_option maxHeartbeats 8000000 in
theorem folded_step {a:Option Addr} {cap:Nat} {t:List Nd} {l:Option Addr} {lc:Nat} {L:List Sr} {mv:List Value} {fr:List Nat} {k:Nat} {x:Nd} {P:List Nat} {F:Nat → List Nd} {sh:Bool} {kd:ByteArray} {ev:Option Num} {s:Nat} (w:World) (hA:RAt w a t l L mv) (hl:t.length ≤ 4096) (hcap:t.length ≤ cap) (hb:beginsN t = some fr) (hx:t[k]? = some x) (hP:partsAt t fr k = P) (hsk:fr.getD k 0 = s) (hs:s ≤ k)
 (hF:∀ p ∈ P,F p ≠ []) (hsum:(P.map F).flatten.length < 4096) (h16:x.kind = 16 → sh = false) (hkx:1 ≤ x.kind ∧ x.kind ≤ 17) (hkd:sh = true → IntT kd) (hev:∀ v,ev = some v → v.1 = kd ∧ Kept v)
 (hsu:∀ w',RAt w' a t l L mv → Calls Tryz.prog 24 #[.slice a t.length cap,.slice l L.length lc,.int .i64 (k:Int)] w' (SuchEnd sh kd w'))
 (hva:sh = true → ∀ w',RAt w' a t l L mv → Calls Tryz.prog 25 #[.slice a t.length cap,.slice l L.length lc,.int .i64 (k:Int)] w' (ValEnd ev w'))
 (ih:∀ p ∈ P,∀ w',RAt w' a t l L mv → Calls Tryz.prog 43 #[.slice a t.length cap,.slice l L.length lc,.int .i64 (p:Int)] w' (FoldEnd (F p) w')) :
 Calls Tryz.prog 43 #[.slice a t.length cap,.slice l L.length lc,.int .i64 (k:Int)] w (FoldEnd (foldR (wrF (if sh then ev else none) x) x (segN t s (k + 1)) (P.map F)) w):=by
 obtain ⟨hkl,hgx⟩:=List.getElem?_eq_some_iff.1 hx
 have HPt:=Hd (fun w' (h:RAt w' a t l L mv)=>hP ▸ rparts_ok a cap t fr w' h.nodes hl hb k hkl)
 have HSt:=Hd (fun w' (h:RAt w' a t l L mv)=>hsk ▸ rstart_ok a cap t fr w' h.nodes hl hb k hkl)
 unfold PartEnd at HPt
 have HA:=Hd hA
 have HIh:=Hd ih
 have HSu:=Hd hsu
 have HVa:=Hd hva
 have HFne:=Hd hF
 have HEv:=Hd hev
 have HKd:=Hd hkd
 obtain ⟨ba,off,ha,hbl,x0,x1,x2,x3,x4,x5⟩:=nds_at hA.nodes hkl
 rw [hgx] at x0 x1 x2 x3 x4 x5
 subst ha
 obtain ⟨in0,hi,hz0,hz1,hz2⟩:=info_parts infoNd
 have HIn:=Hd (And.intro hi (And.intro hz0 (And.intro hz1 hz2)))
 clear hi hz0 hz1 hz2
 have hPl:P.length ≤ 4096:=by
  have:=len_flat (Ts:=P.map F) fun T hT=>by obtain ⟨p,hp,rfl⟩:=List.mem_map.1 hT;exact hF p hp
  rw [List.length_map] at this;omega
 obtain ⟨kk,n,pp,ii,sx,ty⟩:=x
 simp only at x0 x1 x2 x3 x4 x5 h16 hkx
 clear hA hb hx hP hgx ih hsu hva hF hsk hev hkd
 go_enter Tryz.func43,Tryz.ntmps43
 go_upto_region 2 with fail
 have hq:=nodeAt_new w ⟨kk,n,pp,ii,sx,ty⟩
 have hbn:=ba1 w (ndObj ⟨kk,n,pp,ii,sx,ty⟩)
 simp only [ndObj] at hq hbn
 generalize w.alloc (.cells #[.int .i64 kk,.int .i64 n,.int .i64 pp,.int .i64 ii,.string sx,.string ty] 42) = w2 at *
 clear x0 x1 x2 x3 x4 x5
 have HNd:=Hd (fun w' (h:Below w2.heap.size w2 w')=>(six_block ((show NodeAt w2 w.heap.size ⟨kk,n,pp,ii,sx,ty⟩ from hq).below h)).1)
 have HB2:=Hd hbn
 have HA2:=Hd (HA.out.below hbn)
 clear hq hbn
 obtain ⟨x0,x1,x2,x3,x4,x5⟩:=HNd.out w2 (Below.refl _ _)
 -- BEGIN
 by_cases k16:kk = 16
 ·subst k16
  obtain rfl:=h16 rfl
  have HFin:=Hd (show foldR (wrF (if false = true then ev else none) ⟨16,n,pp,ii,sx,ty⟩) ⟨16,n,pp,ii,sx,ty⟩ (segN t s (k + 1)) (P.map F) = segN t s (k + 1) from rfl)
  have hsl:=seg_len (t:=t) (s:=s) (e:=k + 1) (by omega) (by omega)
  have HSl:=Hd hsl
  have hq0:(s:Int) ≤ (k:Int) + 1:=by omega
  have hq1:(k:Int) + 1 ≤ (cap:Int):=by omega
  have hq2:(0:Int) ≤ (k:Int) + 1:=by omega
  have hw1:IntKind.i64.wrap ((k:Int) + 1) = (k:Int) + 1:=by rw [IntKind.wrap_i64];omega
  have hw2:((k:Int) + 1).toNat = k + 1:=by omega
  have hn2:s ≤ k + 1:=by omega
  have hn3:cap ≠ s:=by omega
  have HCo:=Hd (hsl ▸ copyTree_ok (some ⟨ba,off + s * 6,none⟩) (cap - s) (segN t s (k + 1)) w2 (seg_nds (s:=s) (e:=k + 1) HA2.out.nodes (by omega) (by omega)) (by omega) (fun h=>by cases h))
  have HSt2:=Hd (HSt.out w2 HA2.out)
  rw [HFin.out]
  clear hsl HFin
  generalize segN t s (k + 1) = R at *
  go_wp2_with (first
   | (go_at_call 75;(with_reducible refine HSt2.out.mono ?_);rintro e wc ⟨rfl,hwc⟩;subst wc)
   | (go_at_call 6;(with_reducible refine HCo.out.mono ?_);rintro e w6 ⟨⟨v6,rfl,hr6⟩,hb6⟩;have HR6:=Hd hr6;have HB6:=Ht HB2 hb6;clear hr6 hb6))
  go_ret
  exact foldEnd HR6.out HB2.out HB6.out
 have t16:(kk == 16) = false:=by simpa using k16
 have HSu2:=Hd (HSu.out w2 HA2.out)
 unfold SuchEnd at HSu2
 have HNo:=Hd (show foldR none ⟨kk,n,pp,ii,sx,ty⟩ (segN t s (k + 1)) (P.map F) = (P.map F).flatten ++ [⟨kk,n,pp,ii,sx,ty⟩] from by unfold foldR;simp only;rw [if_neg k16])
 cases sh with
 | false=>
   have HFin:=Hd (show foldR (wrF (if false = true then ev else none) ⟨kk,n,pp,ii,sx,ty⟩) ⟨kk,n,pp,ii,sx,ty⟩ (segN t s (k + 1)) (P.map F) = (P.map F).flatten ++ [⟨kk,n,pp,ii,sx,ty⟩] from by
    rw [← HNo.out];congr 1;unfold wrF;split <;> rfl)
   clear k16 h16
   go_upto_region 11 with (go_at_call 24;(with_reducible refine HSu2.out.mono ?_);rintro e w3 ⟨⟨u,rfl,_⟩,hb3⟩;have HZ:=Hd hb3;obtain ⟨x0,x1,x2,x3,x4,x5⟩:=HNd.out w3 hb3;clear hb3)
   have HAz:=Hd (HA2.out.below HZ.out)
   have HPz:=Hd (HPt.out w3 HAz.out)
   go_wp2_with (go_at_call 51;(with_reducible refine HPz.out.mono ?_);rintro e wp ⟨⟨v,rfl,hrow⟩,hbp⟩;obtain ⟨pa,pc,rfl,hpn,_⟩:=hrow.is;have HNp:=Hd hpn;have HBp:=Ht HZ hbp;clear hrow hpn hbp)
   have HAp:=Hd (HA2.out.below HBp.out)
   have HFl:=Hd (fl_start wp P F)
   generalize wp.alloc (.cells #[] 42) = wq at *
   go_loopg [14,15] P.length (fun m v14 v15 wy=>∃ (i:Nat),i ≤ P.length ∧ i + m = P.length ∧ v15 = .int .i64 (i:Int) ∧ Hid (FlInv wp P F wy v14 i))
   case atStart=>exact ⟨0,by omega,by omega,rfl,HFl⟩
   case round=>
    obtain ⟨i,hi,him,rfl,HS⟩:=hrel
    have HAr:=Hd (HAp.out.below HS.out.below)
    by_cases hlt:i < P.length
    ·obtain ⟨pb,po,hpa,hpb,c0⟩:=nats_at HNp.out hlt
     subst hpa
     rw [← HS.out.below.cell hpb] at c0
     have HPi:=Hd (List.getElem?_eq_getElem hlt)
     have HIp:=Hd (HIh.out _ (List.getElem_mem hlt) wr HAr.out)
     have HNe:=Hd (HFne.out _ (List.getElem_mem hlt))
     have hsl:=fl_step_len (F:=F) HPi.out
     generalize P[i]'hlt = p at *
     have HO:=Hd HS.out.row
     have HLn:=Hd (flat_len nd_len (F p))
     generalize hJ:((P.take i).map F).flatten = J at *
     have HJ:=Hd hJ
     unfold FoldEnd at HIp
     unfold NdRow at HO
     clear hJ
     have hsw:=HS.out.below.size
     go_wp2_with (first | (go_at_call 43;(with_reducible refine HIp.out.mono ?_);rintro e w6 ⟨⟨v6,rfl,hr6⟩,hb6⟩;obtain ⟨g6,c6,rfl,_,_,hc6⟩:=ndRow_cells hr6 HNe.out;have HC6:=Hd hc6;have HB6:=Hd hb6;have hs6:=hb6.size;clear hr6 hb6 hc6) | (at_builtin;go_loud (refine wpList_append_own _ rfl _ _ _ rfl wp.heap.size 42 in0 _ 6 64 Tryz.underlying23 HIn.out.1 HIn.out.2.1 HIn.out.2.2.1 HIn.out.2.2.2 rfl (by decide) u14 J.length (J.flatMap ndCells) rfl (HO.out.belowed HB6.out) ⟨g6,0,none⟩ (F p).length c6 ((F p).flatMap ndCells) rfl HLn.out (fun j u h=>by rw [addN,Nat.zero_add];exact HC6.out j u h) (nd_one (F p)) (by unfold maxLen;omega) (by omega) (Nat.le_trans hsw hs6) ?_)))
     intro v' w7 hown hgrow _
     have HN:=Hd (fl_next HS.out HPi.out HB6.out (by rw [HJ.out];exact hown) hgrow)
     clear hown hgrow
     go_wp2_with fail
     go_roundg (P.length - (i + 1))
     case measure=>omega
     case rel=>exact ⟨i + 1,by omega,by omega,by rw [Int.natCast_add];rfl,HN⟩
    ·obtain rfl:i = P.length:=by omega
     have HBr:=Hd (HBp.out.trans (HS.out.below.mono HBp.out.size))
     obtain ⟨x0,x1,x2,x3,x4,x5⟩:=HNd.out wr HBr.out
     have HO:=Hd HS.out.row
     rw [List.take_length] at HO
     generalize (P.map F).flatten = J at *
     unfold NdRow at HO
     have hsw:=HS.out.below.size
     go_wp2_with (at_builtin;go_loud (refine wpList_append_own _ rfl _ _ _ rfl wp.heap.size 42 in0 _ 6 64 Tryz.underlying23 HIn.out.1 HIn.out.2.1 HIn.out.2.2.1 HIn.out.2.2.2 rfl (by decide) u14 J.length (J.flatMap ndCells) rfl (HO.out.belowed (ba1 _ _)) ⟨wr.heap.size,0,none⟩ 1 1 (ndCells ⟨kk,n,pp,ii,sx,ty⟩) rfl rfl (World.news_of_block (cs:=#[.int .i64 kk,.int .i64 n,.int .i64 pp,.int .i64 ii,.string sx,.string ty]) (heap_alloc_new _ _)) (fun u hu=>by have:=nd_one [⟨kk,n,pp,ii,sx,ty⟩] u (by simpa using hu);exact this) (by unfold maxLen;omega) (by omega) (Nat.le_trans hsw (ba1 _ _).size) ?_))
     intro v' w7 hown hgrow _
     have HE:=Hd (fold_tail HB2.out HBp.out HS.out.below HO.out hown hgrow)
     clear hown hgrow
     go_wp2_with fail
     go_ret
     exact (congrArg (fun T=>FoldEnd T w _ _) HFin.out).mpr HE.out
 | true=>
   simp only [if_true]
   have hwA:kk ≠ 1 → ∀ c,wrF c ⟨kk,n,pp,ii,sx,ty⟩ = c.bind fun v=>writeT v pp:=fun h c=>by unfold wrF;rw [if_pos ⟨by show 1 < kk;omega,hkx.2⟩]
   by_cases k1:kk = 1
   ·subst k1
    have HFin:=Hd (show foldR (wrF ev ⟨1,n,pp,ii,sx,ty⟩) ⟨1,n,pp,ii,sx,ty⟩ (segN t s (k + 1)) (P.map F) = (P.map F).flatten ++ [⟨1,n,pp,ii,sx,ty⟩] from by
     rw [← HNo.out];congr 1)
    clear k16 h16 hwA
    go_upto_region 11 with (go_at_call 24;(with_reducible refine HSu2.out.mono ?_);rintro e w3 ⟨⟨u,rfl,_⟩,hb3⟩;have HZ:=Hd hb3;obtain ⟨x0,x1,x2,x3,x4,x5⟩:=HNd.out w3 hb3;clear hb3)
    have HAz:=Hd (HA2.out.below HZ.out)
    have HPz:=Hd (HPt.out w3 HAz.out)
    go_wp2_with (go_at_call 51;(with_reducible refine HPz.out.mono ?_);rintro e wp ⟨⟨v,rfl,hrow⟩,hbp⟩;obtain ⟨pa,pc,rfl,hpn,_⟩:=hrow.is;have HNp:=Hd hpn;have HBp:=Ht HZ hbp;clear hrow hpn hbp)
    have HAp:=Hd (HA2.out.below HBp.out)
    have HFl:=Hd (fl_start wp P F)
    generalize wp.alloc (.cells #[] 42) = wq at *
    go_loopg [14,15] P.length (fun m v14 v15 wy=>∃ (i:Nat),i ≤ P.length ∧ i + m = P.length ∧ v15 = .int .i64 (i:Int) ∧ Hid (FlInv wp P F wy v14 i))
    case atStart=>exact ⟨0,by omega,by omega,rfl,HFl⟩
    case round=>
     obtain ⟨i,hi,him,rfl,HS⟩:=hrel
     have HAr:=Hd (HAp.out.below HS.out.below)
     by_cases hlt:i < P.length
     ·obtain ⟨pb,po,hpa,hpb,c0⟩:=nats_at HNp.out hlt
      subst hpa
      rw [← HS.out.below.cell hpb] at c0
      have HPi:=Hd (List.getElem?_eq_getElem hlt)
      have HIp:=Hd (HIh.out _ (List.getElem_mem hlt) wr HAr.out)
      have HNe:=Hd (HFne.out _ (List.getElem_mem hlt))
      have hsl:=fl_step_len (F:=F) HPi.out
      generalize P[i]'hlt = p at *
      have HO:=Hd HS.out.row
      have HLn:=Hd (flat_len nd_len (F p))
      generalize hJ:((P.take i).map F).flatten = J at *
      have HJ:=Hd hJ
      unfold FoldEnd at HIp
      unfold NdRow at HO
      clear hJ
      have hsw:=HS.out.below.size
      go_wp2_with (first | (go_at_call 43;(with_reducible refine HIp.out.mono ?_);rintro e w6 ⟨⟨v6,rfl,hr6⟩,hb6⟩;obtain ⟨g6,c6,rfl,_,_,hc6⟩:=ndRow_cells hr6 HNe.out;have HC6:=Hd hc6;have HB6:=Hd hb6;have hs6:=hb6.size;clear hr6 hb6 hc6) | (at_builtin;go_loud (refine wpList_append_own _ rfl _ _ _ rfl wp.heap.size 42 in0 _ 6 64 Tryz.underlying23 HIn.out.1 HIn.out.2.1 HIn.out.2.2.1 HIn.out.2.2.2 rfl (by decide) u14 J.length (J.flatMap ndCells) rfl (HO.out.belowed HB6.out) ⟨g6,0,none⟩ (F p).length c6 ((F p).flatMap ndCells) rfl HLn.out (fun j u h=>by rw [addN,Nat.zero_add];exact HC6.out j u h) (nd_one (F p)) (by unfold maxLen;omega) (by omega) (Nat.le_trans hsw hs6) ?_)))
      intro v' w7 hown hgrow _
      have HN:=Hd (fl_next HS.out HPi.out HB6.out (by rw [HJ.out];exact hown) hgrow)
      clear hown hgrow
      go_wp2_with fail
      go_roundg (P.length - (i + 1))
      case measure=>omega
      case rel=>exact ⟨i + 1,by omega,by omega,by rw [Int.natCast_add];rfl,HN⟩
     ·obtain rfl:i = P.length:=by omega
      have HBr:=Hd (HBp.out.trans (HS.out.below.mono HBp.out.size))
      obtain ⟨x0,x1,x2,x3,x4,x5⟩:=HNd.out wr HBr.out
      have HO:=Hd HS.out.row
      rw [List.take_length] at HO
      generalize (P.map F).flatten = J at *
      unfold NdRow at HO
      have hsw:=HS.out.below.size
      go_wp2_with (at_builtin;go_loud (refine wpList_append_own _ rfl _ _ _ rfl wp.heap.size 42 in0 _ 6 64 Tryz.underlying23 HIn.out.1 HIn.out.2.1 HIn.out.2.2.1 HIn.out.2.2.2 rfl (by decide) u14 J.length (J.flatMap ndCells) rfl (HO.out.belowed (ba1 _ _)) ⟨wr.heap.size,0,none⟩ 1 1 (ndCells ⟨1,n,pp,ii,sx,ty⟩) rfl rfl (World.news_of_block (cs:=#[.int .i64 1,.int .i64 n,.int .i64 pp,.int .i64 ii,.string sx,.string ty]) (heap_alloc_new _ _)) (fun u hu=>by have:=nd_one [⟨1,n,pp,ii,sx,ty⟩] u (by simpa using hu);exact this) (by unfold maxLen;omega) (by omega) (Nat.le_trans hsw (ba1 _ _).size) ?_))
      intro v' w7 hown hgrow _
      have HE:=Hd (fold_tail HB2.out HBp.out HS.out.below HO.out hown hgrow)
      clear hown hgrow
      go_wp2_with fail
      go_ret
      exact (congrArg (fun T=>FoldEnd T w _ _) HFin.out).mpr HE.out
   have t1:(kk != 1) = true:=by simpa using k1
   have hw:=hwA k1
   have HVa2:=Hd (HVa.out rfl)
   clear k1 k16 h16 hwA
   cases ev with
   | none=>
     have HFin:=Hd (show foldR (wrF none ⟨kk,n,pp,ii,sx,ty⟩) ⟨kk,n,pp,ii,sx,ty⟩ (segN t s (k + 1)) (P.map F) = (P.map F).flatten ++ [⟨kk,n,pp,ii,sx,ty⟩] from by rw [hw none,← HNo.out];rfl)
     have HVb:=Hd (fun w' h=>valRaw0 (HVa2.out w' h))
     clear hw
     go_upto_region 11 with (first
      | (go_at_call 24;(with_reducible refine HSu2.out.mono ?_);rintro e w3 ⟨⟨u,rfl,hu⟩,hb3⟩;obtain rfl:=hu rfl;have HB3:=Hd hb3;obtain ⟨x0,x1,x2,x3,x4,x5⟩:=HNd.out w3 hb3;have HV3:=Hd (HVb.out w3 (HA2.out.below hb3));clear hb3 hu)
      | (go_at_call 25;(with_reducible refine HV3.out.mono ?_);rintro e w4 ⟨⟨n1,rfl⟩,hb4⟩;have HZ:=Ht HB3 hb4;clear hb4))
     have HAz:=Hd (HA2.out.below HZ.out)
     have HPz:=Hd (HPt.out w4 HAz.out)
     go_wp2_with (go_at_call 51;(with_reducible refine HPz.out.mono ?_);rintro e wp ⟨⟨v,rfl,hrow⟩,hbp⟩;obtain ⟨pa,pc,rfl,hpn,_⟩:=hrow.is;have HNp:=Hd hpn;have HBp:=Ht HZ hbp;clear hrow hpn hbp)
     have HAp:=Hd (HA2.out.below HBp.out)
     have HFl:=Hd (fl_start wp P F)
     generalize wp.alloc (.cells #[] 42) = wq at *
     go_loopg [14,15] P.length (fun m v14 v15 wy=>∃ (i:Nat),i ≤ P.length ∧ i + m = P.length ∧ v15 = .int .i64 (i:Int) ∧ Hid (FlInv wp P F wy v14 i))
     case atStart=>exact ⟨0,by omega,by omega,rfl,HFl⟩
     case round=>
      obtain ⟨i,hi,him,rfl,HS⟩:=hrel
      have HAr:=Hd (HAp.out.below HS.out.below)
      by_cases hlt:i < P.length
      ·obtain ⟨pb,po,hpa,hpb,c0⟩:=nats_at HNp.out hlt
       subst hpa
       rw [← HS.out.below.cell hpb] at c0
       have HPi:=Hd (List.getElem?_eq_getElem hlt)
       have HIp:=Hd (HIh.out _ (List.getElem_mem hlt) wr HAr.out)
       have HNe:=Hd (HFne.out _ (List.getElem_mem hlt))
       have hsl:=fl_step_len (F:=F) HPi.out
       generalize P[i]'hlt = p at *
       have HO:=Hd HS.out.row
       have HLn:=Hd (flat_len nd_len (F p))
       generalize hJ:((P.take i).map F).flatten = J at *
       have HJ:=Hd hJ
       unfold FoldEnd at HIp
       unfold NdRow at HO
       clear hJ
       have hsw:=HS.out.below.size
       go_wp2_with (first | (go_at_call 43;(with_reducible refine HIp.out.mono ?_);rintro e w6 ⟨⟨v6,rfl,hr6⟩,hb6⟩;obtain ⟨g6,c6,rfl,_,_,hc6⟩:=ndRow_cells hr6 HNe.out;have HC6:=Hd hc6;have HB6:=Hd hb6;have hs6:=hb6.size;clear hr6 hb6 hc6) | (at_builtin;go_loud (refine wpList_append_own _ rfl _ _ _ rfl wp.heap.size 42 in0 _ 6 64 Tryz.underlying23 HIn.out.1 HIn.out.2.1 HIn.out.2.2.1 HIn.out.2.2.2 rfl (by decide) u14 J.length (J.flatMap ndCells) rfl (HO.out.belowed HB6.out) ⟨g6,0,none⟩ (F p).length c6 ((F p).flatMap ndCells) rfl HLn.out (fun j u h=>by rw [addN,Nat.zero_add];exact HC6.out j u h) (nd_one (F p)) (by unfold maxLen;omega) (by omega) (Nat.le_trans hsw hs6) ?_)))
       intro v' w7 hown hgrow _
       have HN:=Hd (fl_next HS.out HPi.out HB6.out (by rw [HJ.out];exact hown) hgrow)
       clear hown hgrow
       go_wp2_with fail
       go_roundg (P.length - (i + 1))
       case measure=>omega
       case rel=>exact ⟨i + 1,by omega,by omega,by rw [Int.natCast_add];rfl,HN⟩
      ·obtain rfl:i = P.length:=by omega
       have HBr:=Hd (HBp.out.trans (HS.out.below.mono HBp.out.size))
       obtain ⟨x0,x1,x2,x3,x4,x5⟩:=HNd.out wr HBr.out
       have HO:=Hd HS.out.row
       rw [List.take_length] at HO
       generalize (P.map F).flatten = J at *
       unfold NdRow at HO
       have hsw:=HS.out.below.size
       go_wp2_with (at_builtin;go_loud (refine wpList_append_own _ rfl _ _ _ rfl wp.heap.size 42 in0 _ 6 64 Tryz.underlying23 HIn.out.1 HIn.out.2.1 HIn.out.2.2.1 HIn.out.2.2.2 rfl (by decide) u14 J.length (J.flatMap ndCells) rfl (HO.out.belowed (ba1 _ _)) ⟨wr.heap.size,0,none⟩ 1 1 (ndCells ⟨kk,n,pp,ii,sx,ty⟩) rfl rfl (World.news_of_block (cs:=#[.int .i64 kk,.int .i64 n,.int .i64 pp,.int .i64 ii,.string sx,.string ty]) (heap_alloc_new _ _)) (fun u hu=>by have:=nd_one [⟨kk,n,pp,ii,sx,ty⟩] u (by simpa using hu);exact this) (by unfold maxLen;omega) (by omega) (Nat.le_trans hsw (ba1 _ _).size) ?_))
       intro v' w7 hown hgrow _
       have HE:=Hd (fold_tail HB2.out HBp.out HS.out.below HO.out hown hgrow)
       clear hown hgrow
       go_wp2_with fail
       go_ret
       exact (congrArg (fun T=>FoldEnd T w _ _) HFin.out).mpr HE.out
   | some v=>
     obtain ⟨hv1,hv2⟩:=HEv.out v rfl
     obtain ⟨vt,vn⟩:=v
     simp only at hv1
     subst hv1
     unfold Kept at hv2
     simp only at hv2
     have HVb:=Hd (fun w' h=>valRaw1 (HVa2.out w' h))
     have HNm:=Hd (fun w'=>rnumber_ok vn vt pp hv2 w')
     unfold NumEnd at HNm
     have hw1:=hw (some (vt,vn))
     rw [Option.bind_some] at hw1
     have HW1:=Hd hw1
     clear hw hw1 hv2
     generalize writeT (vt,vn) pp = wt at *
     rcases wt with _ | W
     ·have HFin:=Hd ((congrArg (fun o=>foldR o ⟨kk,n,pp,ii,sx,ty⟩ (segN t s (k + 1)) (P.map F)) HW1.out).trans HNo.out)
      go_upto_region 11 with (first
       | (go_at_call 24;(with_reducible refine HSu2.out.mono ?_);rintro e w3 ⟨⟨u,rfl,hu⟩,hb3⟩;obtain rfl:=hu rfl;have HB3:=Hd hb3;obtain ⟨x0,x1,x2,x3,x4,x5⟩:=HNd.out w3 hb3;have HV3:=Hd (HVb.out w3 (HA2.out.below hb3));clear hb3 hu)
       | (go_at_call 25;(with_reducible refine HV3.out.mono ?_);rintro e w4 ⟨rfl,hb4⟩;have HB4:=Ht HB3 hb4;obtain ⟨x0,x1,x2,x3,x4,x5⟩:=HNd.out w4 HB4.out;clear hb4)
       | (go_at_call 76;(with_reducible refine (HNm.out _).mono ?_);rintro e w5 ⟨⟨v5,rfl,hr5⟩,hb5⟩;obtain ⟨a5,c5,rfl⟩:=row_slice hr5;have HZ:=Ht HB4 hb5;clear hb5 hr5))
      have HAz:=Hd (HA2.out.below HZ.out)
      have HPz:=Hd (HPt.out w5 HAz.out)
      go_wp2_with (go_at_call 51;(with_reducible refine HPz.out.mono ?_);rintro e wp ⟨⟨v,rfl,hrow⟩,hbp⟩;obtain ⟨pa,pc,rfl,hpn,_⟩:=hrow.is;have HNp:=Hd hpn;have HBp:=Ht HZ hbp;clear hrow hpn hbp)
      have HAp:=Hd (HA2.out.below HBp.out)
      have HFl:=Hd (fl_start wp P F)
      generalize wp.alloc (.cells #[] 42) = wq at *
      go_loopg [14,15] P.length (fun m v14 v15 wy=>∃ (i:Nat),i ≤ P.length ∧ i + m = P.length ∧ v15 = .int .i64 (i:Int) ∧ Hid (FlInv wp P F wy v14 i))
      case atStart=>exact ⟨0,by omega,by omega,rfl,HFl⟩
      case round=>
       obtain ⟨i,hi,him,rfl,HS⟩:=hrel
       have HAr:=Hd (HAp.out.below HS.out.below)
       by_cases hlt:i < P.length
       ·obtain ⟨pb,po,hpa,hpb,c0⟩:=nats_at HNp.out hlt
        subst hpa
        rw [← HS.out.below.cell hpb] at c0
        have HPi:=Hd (List.getElem?_eq_getElem hlt)
        have HIp:=Hd (HIh.out _ (List.getElem_mem hlt) wr HAr.out)
        have HNe:=Hd (HFne.out _ (List.getElem_mem hlt))
        have hsl:=fl_step_len (F:=F) HPi.out
        generalize P[i]'hlt = p at *
        have HO:=Hd HS.out.row
        have HLn:=Hd (flat_len nd_len (F p))
        generalize hJ:((P.take i).map F).flatten = J at *
        have HJ:=Hd hJ
        unfold FoldEnd at HIp
        unfold NdRow at HO
        clear hJ
        have hsw:=HS.out.below.size
        go_wp2_with (first | (go_at_call 43;(with_reducible refine HIp.out.mono ?_);rintro e w6 ⟨⟨v6,rfl,hr6⟩,hb6⟩;obtain ⟨g6,c6,rfl,_,_,hc6⟩:=ndRow_cells hr6 HNe.out;have HC6:=Hd hc6;have HB6:=Hd hb6;have hs6:=hb6.size;clear hr6 hb6 hc6) | (at_builtin;go_loud (refine wpList_append_own _ rfl _ _ _ rfl wp.heap.size 42 in0 _ 6 64 Tryz.underlying23 HIn.out.1 HIn.out.2.1 HIn.out.2.2.1 HIn.out.2.2.2 rfl (by decide) u14 J.length (J.flatMap ndCells) rfl (HO.out.belowed HB6.out) ⟨g6,0,none⟩ (F p).length c6 ((F p).flatMap ndCells) rfl HLn.out (fun j u h=>by rw [addN,Nat.zero_add];exact HC6.out j u h) (nd_one (F p)) (by unfold maxLen;omega) (by omega) (Nat.le_trans hsw hs6) ?_)))
        intro v' w7 hown hgrow _
        have HN:=Hd (fl_next HS.out HPi.out HB6.out (by rw [HJ.out];exact hown) hgrow)
        clear hown hgrow
        go_wp2_with fail
        go_roundg (P.length - (i + 1))
        case measure=>omega
        case rel=>exact ⟨i + 1,by omega,by omega,by rw [Int.natCast_add];rfl,HN⟩
       ·obtain rfl:i = P.length:=by omega
        have HBr:=Hd (HBp.out.trans (HS.out.below.mono HBp.out.size))
        obtain ⟨x0,x1,x2,x3,x4,x5⟩:=HNd.out wr HBr.out
        have HO:=Hd HS.out.row
        rw [List.take_length] at HO
        generalize (P.map F).flatten = J at *
        unfold NdRow at HO
        have hsw:=HS.out.below.size
        go_wp2_with (at_builtin;go_loud (refine wpList_append_own _ rfl _ _ _ rfl wp.heap.size 42 in0 _ 6 64 Tryz.underlying23 HIn.out.1 HIn.out.2.1 HIn.out.2.2.1 HIn.out.2.2.2 rfl (by decide) u14 J.length (J.flatMap ndCells) rfl (HO.out.belowed (ba1 _ _)) ⟨wr.heap.size,0,none⟩ 1 1 (ndCells ⟨kk,n,pp,ii,sx,ty⟩) rfl rfl (World.news_of_block (cs:=#[.int .i64 kk,.int .i64 n,.int .i64 pp,.int .i64 ii,.string sx,.string ty]) (heap_alloc_new _ _)) (fun u hu=>by have:=nd_one [⟨kk,n,pp,ii,sx,ty⟩] u (by simpa using hu);exact this) (by unfold maxLen;omega) (by omega) (Nat.le_trans hsw (ba1 _ _).size) ?_))
        intro v' w7 hown hgrow _
        have HE:=Hd (fold_tail HB2.out HBp.out HS.out.below HO.out hown hgrow)
        clear hown hgrow
        go_wp2_with fail
        go_ret
        exact (congrArg (fun T=>FoldEnd T w _ _) HFin.out).mpr HE.out
     ·have HWp:=flat_pos W
      have t5:decide (0 < (W.flat.length:Int)) = true:=by simp;omega
      go_wp2_with (first
       | (go_at_call 24;(with_reducible refine HSu2.out.mono ?_);rintro e w3 ⟨⟨u,rfl,hu⟩,hb3⟩;obtain rfl:=hu rfl;have HB3:=Hd hb3;obtain ⟨x0,x1,x2,x3,x4,x5⟩:=HNd.out w3 hb3;have HV3:=Hd (HVb.out w3 (HA2.out.below hb3));clear hb3 hu)
       | (go_at_call 25;(with_reducible refine HV3.out.mono ?_);rintro e w4 ⟨rfl,hb4⟩;have HB4:=Ht HB3 hb4;obtain ⟨x0,x1,x2,x3,x4,x5⟩:=HNd.out w4 HB4.out;clear hb4)
       | (go_at_call 76;(with_reducible refine (HNm.out _).mono ?_);rintro e w5 ⟨⟨v5,rfl,hr5⟩,hb5⟩;obtain ⟨a5,c5,rfl⟩:=row_slice hr5;have HR5:=Hd hr5;have HB5:=Ht HB4 hb5;clear hb5 hr5))
      go_ret
      exact (congrArg (fun o=>FoldEnd (foldR o ⟨kk,n,pp,ii,sx,ty⟩ (segN t s (k + 1)) (P.map F)) w _ _) HW1.out).mpr (foldEnd HR5.out (HB2.out.trans (HB4.out.mono HB2.out.size)) (HB2.out.trans (HB5.out.mono HB2.out.size)))
end Go.Proofs.YtlcfejgjeljjdaaGreatDoor
