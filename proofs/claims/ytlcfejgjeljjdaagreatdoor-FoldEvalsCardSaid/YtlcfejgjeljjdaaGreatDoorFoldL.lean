/- A part with its constants reckoned: the program -/
import Derived.Test.YtlcfejgjeljjdaaGreatDoorMg24
namespace Go.Proofs.YtlcfejgjeljjdaaGreatDoor
open Go.RowKit
theorem infoTr:(Tryz.prog.info? 23).map (fun i=>(i.zero,i.size,i.bytes)) = some (some (.slice none 0 0),1,24):=by kernel_rfl
structure FdInv (w:World) (P:List Nat) (F:Nat → List Nd) (wy:World) (v:Value) (i:Nat):Prop where
 row:∃ Vs,wy.ownsRow w.heap.size 23 1 v i Vs ∧ TreesBut v.ownBlock wy Vs ((P.take i).map F)
 below:Below w.heap.size w wy
theorem fd_start (w:World) (P:List Nat) (F:Nat → List Nd) (wy:World) (hb:Below w.heap.size w wy):FdInv w P F wy (.slice none 0 0) 0:=⟨⟨[],⟨rfl,.inl ⟨rfl,rfl⟩⟩,by simp,fun i v T h=>by simp at h⟩,hb⟩
theorem fd_push {w wy w3 w5:World} {P:List Nat} {F:Nat → List Nd} {v v' u:Value} {i p:Nat} {Vs:List Value} (ho:wy.ownsRow w.heap.size 23 1 v i Vs) (ht:TreesBut v.ownBlock wy Vs ((P.take i).map F)) (hbel:Below w.heap.size w wy) (hp:P[i]? = some p) (hb3:Below wy.heap.size wy w3) (hr:NdRow w3 wy.heap.size u (F p)) (hne:F p ≠ []) {o:Obj}
 (hown:w5.ownsRow w.heap.size 23 1 v' (i + 1) (Vs ++ [u])) (hgrow:(w3.alloc o).grownBy w5 v.ownBlock) (hat:∀ c,v'.ownBlock = some c → v.ownBlock = some c ∨ w3.heap.size ≤ c):FdInv w P F w5 v' (i + 1):=by
 have hlb:∀ c,v.ownBlock = some c → w.heap.size ≤ c ∧ c < wy.heap.size:=fun c hc=>by
  rcases own_blk ho with hn | ⟨f,hf,h1,h2⟩
  ·rw [hn] at hc;cases hc
  ·rw [hf] at hc;obtain rfl:=Option.some.inj hc;exact ⟨h1,h2⟩
 have hsz:w3.heap.size ≤ w5.heap.size:=Nat.le_trans (ba1 w3 o).size hgrow.size
 refine ⟨⟨Vs ++ [u],hown,?_⟩,?_⟩
 ·rw [show (P.take (i + 1)).map F = (P.take i).map F ++ [F p] by rw [List.take_add_one,hp];simp]
  refine ht.push hb3 hr hne (fun b hb hc=>?_) hsz (fun c hc=>(hlb c hc).2) hat
  rw [hgrow.block b (by have:=(ba1 w3 o).size;omega) (fun e=>hc b e.symm rfl)]
  exact (ba1 w3 o).block b hb
 ·have h1:Below w.heap.size w (w3.alloc o):=(hbel.trans (hb3.mono hbel.size)).alloc (Nat.le_trans hbel.size hb3.size) _
  exact h1.grown hgrow h1.size fun k hk=>(hlb k hk).1
theorem fd_end {w wr wz w7:World} {v6 v':Value} {J R:List Nd} {x:Nd} (hBr:Below w.heap.size w wr) (hbz:Below wr.heap.size wr wz) (ho:wz.ownsRow wr.heap.size 42 6 v6 J.length (J.flatMap ndCells)) (hown:w7.ownsRow wr.heap.size 42 6 v' (J.length + 1) (J.flatMap ndCells ++ ndCells x)) (hgrow:wz.grownBy w7 v6.ownBlock) (hfin:J ++ [x] = R):FoldEnd R w (.returned v') w7:=by
 subst hfin
 refine ⟨⟨v',rfl,?_⟩,?_⟩
 ·unfold NdRow
  rw [List.length_append,List.flatMap_append]
  have:=own_le9 hown hBr.size
  simpa using this
 ·refine (hBr.trans (hbz.mono hBr.size)).grown hgrow (Nat.le_trans hBr.size hbz.size) fun k hk=>?_
  rcases own_blk ho with hn | ⟨f,hf,h1,h2⟩
  ·rw [hn] at hk;cases hk
  ·rw [hf] at hk;obtain rfl:=Option.some.inj hk
   exact Nat.le_trans hBr.size h1
theorem fd_joined {w wy:World} {P:List Nat} {F:Nat → List Nd} {v:Value} (h:FdInv w P F wy v P.length) (hsum:(P.map F).flatten.length ≤ 4096) (w':World) (hb:Below wy.heap.size wy w'):Calls Tryz.prog 73 #[v] w' (FoldEnd (P.map F).flatten w'):=by
 obtain ⟨Vs,ho,ht⟩:=h.row
 rw [List.take_length] at ht
 rcases own_form ho with ⟨rfl,h0⟩ | ⟨g,cp,rfl⟩
 ·have:P = []:=List.eq_nil_of_length_eq_zero h0
  subst this
  exact (joined_nil w').mono fun e w2 ⟨he,hw⟩=>by subst he;subst hw;exact ⟨⟨_,rfl,nd_row_nil _ _⟩,Below.refl _ _⟩
 ·obtain ⟨_,_,hg1,hg2⟩:=own_at ho
  have hV:=ht.vals
  have:=joined_ok g 0 cp Vs (P.map F) w' (Nat.lt_of_lt_of_le hg2 hb.size) (fun i v hv=>by
   rw [Nat.zero_add,hb.cell hg2,ho.cellAt i (by have:=(List.getElem?_eq_some_iff.1 hv).1;have:=ho.1;omega)];exact hv)
   ⟨hV.1,fun i v T hv hT=>by obtain ⟨h1,a,c,e,hI⟩:=hV.2 i v T hv hT;exact ⟨h1,a,c,e,(hI.below hb (Nat.le_refl _)).mono hb.size⟩⟩ hsum
  rw [List.length_map] at this
  exact this
theorem seg_nds {B:Nat} {w:World} {b off:Nat} {t:List Nd} {s e:Nat} (h:IsNds B w (some ⟨b,off,none⟩) t) (h1:s ≤ e) (_h2:e ≤ t.length):IsNds B w (some ⟨b,off + s * 6,none⟩) (segN t s e):=fun hne=>by
 have hse:s < t.length:=by
  rcases Nat.lt_or_ge s t.length with h | h
  ·exact h
  ·exfalso;apply hne;unfold segN;rw [List.drop_eq_nil_of_le h];simp
 obtain ⟨b',off',e',hlt,hc⟩:=h (fun h=>by rw [h] at hse;simp at hse)
 cases e'
 refine ⟨b,off + s * 6,rfl,hlt,fun i x hx j u hu=>?_⟩
 unfold segN at hx
 have hi:i < e - s:=by
  have:=(List.getElem?_eq_some_iff.1 hx).1
  rw [List.length_take] at this;omega
 rw [List.getElem?_take_of_lt hi,List.getElem?_drop] at hx
 have:=hc (s + i) x hx j u hu
 rw [← this]
 congr 2
 omega
theorem seg_len {t:List Nd} {s e:Nat} (_h1:s ≤ e) (h2:e ≤ t.length):(segN t s e).length = e - s:=by
 unfold segN
 rw [List.length_take,List.length_drop];omega
def foldR (wr:Option Tr) (x:Nd) (sg:List Nd) (Fs:List (List Nd)):List Nd:=match wr with
 | some W=>W.flat
 | none=>if x.kind = 16 then sg else Fs.flatten ++ [x]
def wrF (c:Option Num) (x:Nd):Option Tr:=if 1 < x.kind ∧ x.kind ≤ 17 then c.bind fun v=>writeT v x.at_ else none
set_option maxRecDepth 100000 in
set_option maxHeartbeats 8000000 in
theorem fold_step {f:Nat} {a:Option Addr} {cap:Nat} {t:List Nd} {l:Option Addr} {lc:Nat} {L:List Sr} {mv:List Value} {b:Option Addr} {cb:Nat} {fr:List Nat} {B:Nat} {k:Nat} {x:Nd} {P:List Nat} {F:Nat → List Nd} {c:Option Num} {s:Nat} (w:World) (hFo:FoldAt B w f a cap t l lc L mv b cb fr) (hl:t.length ≤ 4096) (hcap:t.length ≤ cap) (hf:Formed t fr) (hx:t[k]? = some x) (hP:partsAt t fr k = P) (hsk:fr.getD k 0 = s) (hle:s ≤ k)
 (hF:∀ p ∈ P,F p ≠ []) (hsum:(P.map F).flatten.length < 4096) (h16:x.kind = 16 → c = none) (hcv:∀ v,c = some v → -4294967296 ≤ v.2 ∧ v.2 ≤ 4294967296)
 (hc:∀ w',FoldAt B w' f a cap t l lc L mv b cb fr → Calls Tryz.prog 22 #[.pointer (some ⟨f,0,none⟩),.int .i64 (k:Int)] w' (EvalEnd c w'))
 (ih:∀ p ∈ P,∀ w',FoldAt B w' f a cap t l lc L mv b cb fr → Calls Tryz.prog 42 #[.pointer (some ⟨f,0,none⟩),.int .i64 (p:Int)] w' (FoldEnd (F p) w')) :
 Calls Tryz.prog 42 #[.pointer (some ⟨f,0,none⟩),.int .i64 (k:Int)] w (FoldEnd (foldR (wrF c x) x (segN t s (k + 1)) (P.map F)) w):=by
 obtain ⟨hkl,hgx⟩:=List.getElem?_eq_some_iff.1 hx
 have hkf:k < fr.length:=by rw [hf.len];exact hkl
 have HFrk:=Hd (show fr[k] = s from by rw [← hsk,List.getD_eq_getElem?_getD,List.getElem?_eq_getElem hkf];rfl)
 have HPt:=Hd (fun w' (h:FoldAt B w' f a cap t l lc L mv b cb fr)=>hP ▸ fparts_ok w' h hl hf k hkl)
 obtain ⟨z0,_,_⟩:=hFo.cells
 obtain ⟨ba,off,ha,hbl,x0,x1,x2,x3,x4,x5⟩:=nds_at hFo.nodes hkl
 rw [hgx] at x0 x1 x2 x3 x4 x5
 subst ha
 have HF:=Hd hFo
 have HIh:=Hd ih
 have HC:=Hd hc
 have HFne:=Hd hF
 have HCv:=Hd hcv
 have hPl:P.length ≤ 4096:=by
  have:=len_flat (Ts:=P.map F) fun T hT=>by obtain ⟨p,hp,rfl⟩:=List.mem_map.1 hT;exact hF p hp
  rw [List.length_map] at this;omega
 obtain ⟨in0,hi,hz0,hz1,hz2⟩:=info_parts infoNd
 have HIn:=Hd (And.intro hi (And.intro hz0 (And.intro hz1 hz2)))
 clear hi hz0 hz1 hz2
 obtain ⟨it0,hi,hz0,hz1,hz2⟩:=info_parts infoTr
 have HIt:=Hd (And.intro hi (And.intro hz0 (And.intro hz1 hz2)))
 clear hi hz0 hz1 hz2
 obtain ⟨kk,n,pp,ii,sx,ty⟩:=x
 simp only at x0 x1 x2 x3 x4 x5 h16
 clear hFo ih hf hx hP hgx hc hF hsk hcv
 go_enter Tryz.func42,Tryz.ntmps42
 go_upto_region 2 with fail
 have hq:=nodeAt_new w ⟨kk,n,pp,ii,sx,ty⟩
 have hbn:=ba1 w (ndObj ⟨kk,n,pp,ii,sx,ty⟩)
 simp only [ndObj] at hq hbn
 generalize w.alloc (.cells #[.int .i64 kk,.int .i64 n,.int .i64 pp,.int .i64 ii,.string sx,.string ty] 42) = w2 at *
 clear z0 x0 x1 x2 x3 x4 x5
 have HQ:=Hd hq
 have HB2:=Hd hbn
 have HF2:=Hd (HF.out.below hbn)
 obtain ⟨⟨x0,x1,x2,x3,x4,x5⟩,_⟩:=six_block hq
 clear hq hbn
 by_cases h1:1 < kk
 ·by_cases h2:kk ≤ 17
  ·have t1:decide (1 < kk) = true:=by simpa using h1
   have t2:decide (kk ≤ 17) = true:=by simpa using h2
   have hwA:∀ c,wrF c ⟨kk,n,pp,ii,sx,ty⟩ = c.bind fun v=>writeT v pp:=fun c=>by unfold wrF;rw [if_pos ⟨h1,h2⟩]
   have HCc:=Hd (HC.out w2 HF2.out)
   clear h1 h2
   rcases c with _ | ⟨vt,vn⟩
   ·have HCd:=Hd (evalRaw0 HCc.out)
    go_upto_region 4 with (go_at_call 22;(with_reducible refine HCd.out.mono ?_);rintro e w3 ⟨⟨vt,vn,rfl⟩,hb3⟩;have HB3:=Hd hb3;clear hb3)
    have HN4:=Hd (numAt_new w3 (vt,vn))
    have HB34:=Hd (HB3.out.trans ((ba1 w3 (numO (vt,vn))).mono HB3.out.size))
    simp only [numO] at HN4 HB34
    generalize hnb:w3.heap.size = nb at *
    generalize w3.alloc (.cells #[.string vt,.int .i64 vn] 50) = w4 at *
    have HQx:=Hd (HQ.out.below HB34.out)
    have HFx:=Hd (HF2.out.below HB34.out)
    have HBx:=Hd (HB2.out.trans (HB34.out.mono HB2.out.size))
    clear x0 x1 x2 x3 x4 x5
    obtain ⟨⟨x0,x1,x2,x3,x4,x5⟩,_⟩:=six_block HQx.out
    have hwr:=hwA none
    simp only [Option.bind_none] at hwr
    clear hwA
    go_upto_region 8 with fail
    by_cases k16:kk = 16
    ·subst k16
     have HFin:=Hd (show segN t s (k + 1) = foldR (wrF none ⟨16,n,pp,ii,sx,ty⟩) ⟨16,n,pp,ii,sx,ty⟩ (segN t s (k + 1)) (P.map F) from rfl)
     clear hwr
     obtain ⟨⟨x0,x1,x2,x3,x4,x5⟩,_⟩:=six_block HQx.out
     obtain ⟨z0,_,z2⟩:=HFx.out.cells
     obtain ⟨bf,of,hbf,_,c3⟩:=nats_at HFx.out.frs hkf
     cases hbf
     rw [HFrk.out] at c3
     have hsl:=seg_len (t:=t) (s:=s) (e:=k + 1) (by omega) (by omega)
     have hne:segN t s (k + 1) ≠ []:=fun h=>by rw [h] at hsl;simp at hsl;omega
     have HSeg:=Hd (seg_nds (s:=s) (e:=k + 1) HFx.out.nodes (by omega) (by omega))
     have HSl:=Hd hsl
     have HNe:=Hd hne
     have hq0:(s:Int) ≤ (k:Int) + 1:=by omega
     have hq1:(k:Int) + 1 ≤ (cap:Int):=by omega
     have hq2:(0:Int) ≤ (k:Int) + 1:=by omega
     have hw1:IntKind.i64.wrap ((k:Int) + 1) = (k:Int) + 1:=by rw [IntKind.wrap_i64];omega
     have hw2:((k:Int) + 1).toNat = k + 1:=by omega
     have hn2:s ≤ k + 1:=by omega
     have hn3:cap ≠ s:=by omega
     clear hsl hne
     have HJ:=Hd (fun (w':World) (g:Nat) (hb:Below w4.heap.size w4 w') (hg:g < w'.heap.size) (hc:w'.cell? ⟨g,0,none⟩ = some (.slice (some ⟨ba,off + s * 6,none⟩) (k + 1 - s) (cap - s)))=>joined_ok g 0 1 [.slice (some ⟨ba,off + s * 6,none⟩) (k + 1 - s) (cap - s)] [segN t s (k + 1)] w' hg
      (fun i v hv=>by
        rcases i with _ | i
        ·obtain rfl:=Option.some.inj hv;exact hc
        ·simp at hv)
      ⟨rfl,fun i v T hv hT=>by
        rcases i with _ | i
        ·obtain rfl:=Option.some.inj hv
         obtain rfl:=Option.some.inj hT
         exact ⟨HNe.out,_,_,by rw [HSl.out],(HSeg.out.below hb HFx.out.le).mono (Nat.le_trans HFx.out.le hb.size)⟩
        ·simp at hv⟩
      (by simp only [List.flatten_cons,List.flatten_nil,List.append_nil];rw [HSl.out];omega))
     have hbo:=ba1 w4 (.cells #[.slice (some ⟨ba,off + s * 6,none⟩) (k + 1 - s) (cap - s)] 23)
     have HJs:=Hd (show Calls Tryz.prog 73 #[.slice (some ⟨w4.heap.size,0,none⟩) 1 1] (w4.alloc (.cells #[.slice (some ⟨ba,off + s * 6,none⟩) (k + 1 - s) (cap - s)] 23)).drew (fun e w'=>(∃ v,e = .returned v ∧ NdRow w' (w4.alloc (.cells #[.slice (some ⟨ba,off + s * 6,none⟩) (k + 1 - s) (cap - s)] 23)).drew.heap.size v (segN t s (k + 1))) ∧ Below (w4.alloc (.cells #[.slice (some ⟨ba,off + s * 6,none⟩) (k + 1 - s) (cap - s)] 23)).drew.heap.size (w4.alloc (.cells #[.slice (some ⟨ba,off + s * 6,none⟩) (k + 1 - s) (cap - s)] 23)).drew w') from by
      have h:=HJ.out (w4.alloc (.cells #[.slice (some ⟨ba,off + s * 6,none⟩) (k + 1 - s) (cap - s)] 23)).drew w4.heap.size hbo.drew (by simp) (show (w4.alloc (.cells #[.slice (some ⟨ba,off + s * 6,none⟩) (k + 1 - s) (cap - s)] 23)).cell? ⟨w4.heap.size,0,none⟩ = _ from by unfold World.cell?;rw [heap_alloc_new];rfl)
      rw [show [segN t s (k + 1)].flatten = segN t s (k + 1) by simp] at h
      exact h)
     have HBo:=Hd hbo.drew
     clear hbo
     go_upto_region 9 with fail
     go_region_law (go_simp;go_at_call 73;(with_reducible refine HJs.out.mono ?_);rintro e w6 ⟨⟨v6,rfl,hr6⟩,hb6⟩;have HR6:=Hd hr6;have HB6:=Hd hb6;clear hr6 hb6)
     all_goals
      go_wp2_with fail
      go_ret
      rw [← HFin.out]
      exact foldEnd HR6.out (HBx.out.trans (HBo.out.mono HBx.out.size)) (HBx.out.trans ((HBo.out.trans (HB6.out.mono HBo.out.size)).mono HBx.out.size))
    ·have HWr:=Hd hwr
     clear hwr
     have q16:(kk == 16) = false:=by simpa using k16
     have HFin:=Hd (show (P.map F).flatten ++ [⟨kk,n,pp,ii,sx,ty⟩] = foldR (wrF none ⟨kk,n,pp,ii,sx,ty⟩) ⟨kk,n,pp,ii,sx,ty⟩ (segN t s (k + 1)) (P.map F) from by rw [HWr.out];unfold foldR;simp only;rw [if_neg k16])
     clear k16
     obtain ⟨⟨x0,x1,x2,x3,x4,x5⟩,_⟩:=six_block HQx.out
     have HPc:=Hd (HPt.out w4 HFx.out)
     go_upto_region 12 with (go_at_call 74;(with_reducible refine HPc.out.mono ?_);rintro e w5 ⟨⟨v5,rfl,hrow5⟩,hb5⟩;obtain ⟨pa,pc,rfl,hps⟩:=PartEnd.row hrow5;have HPs:=Hd hps;have HB5:=Hd hb5;clear hrow5 hps hb5)
     clear x0 x1 x2 x3 x4 x5
     have HF5:=Hd (HFx.out.below HB5.out)
     have HQ5:=Hd (HQx.out.below HB5.out)
     have H0:=Hd (fd_start w5 P F w5 (Below.refl _ _))
     go_loopg [10,67] P.length (fun m v10 v67 wy=>∃ i:Nat,i ≤ P.length ∧ i + m = P.length ∧ v67 = .int .i64 (i:Int) ∧ Hid (FdInv w5 P F wy v10 i))
     case atStart=>exact ⟨0,by omega,by omega,rfl,H0⟩
     case round=>
      obtain ⟨i,hi,him,rfl,HG⟩:=hrel
      by_cases hlt:i < P.length
      ·obtain ⟨pb,po,hpa,hpl,c0⟩:=nats_at HPs.out hlt
       subst hpa
       rw [← HG.out.below.cell hpl] at c0
       have HPi:=Hd (List.getElem?_eq_getElem hlt)
       have hmem:=List.getElem_mem hlt
       have HK:=Hd (HIh.out P[i] hmem wr (HF5.out.below HG.out.below))
       have HNe:=Hd (HFne.out P[i] hmem)
       generalize P[i]'hlt = p at *
       clear hmem hpl
       obtain ⟨Vs,ho,ht⟩:=HG.out.row
       have HO:=Hd ho
       have HTr:=Hd ht
       have hsz5:=HG.out.below.size
       clear ho ht
       go_wp2_with (first | (go_at_call 42;(with_reducible refine HK.out.mono ?_);rintro e w6 ⟨⟨v6,rfl,hr6⟩,hb6⟩;obtain ⟨g6,c6,rfl,_⟩:=ndRow_cells hr6 HNe.out;have HR6:=Hd hr6;have HB6:=Hd hb6;have hs6:=hb6.size;clear hr6 hb6) | (at_builtin;go_loud (refine wpList_append_lies _ rfl _ _ _ rfl w5.heap.size 23 it0 (.slice none 0 0) 1 24 Tryz.underlying104 HIt.out.1 HIt.out.2.1 HIt.out.2.2.1 HIt.out.2.2.2 rfl (by decide) u10 i Vs rfl ((HO.out.belowed HB6.out).belowed (ba1 _ _)) ⟨w6.heap.size,0,none⟩ 1 1 [.slice (some ⟨g6,0,none⟩) (F p).length c6] rfl rfl (World.news_of_block (cs:=#[.slice (some ⟨g6,0,none⟩) (F p).length c6]) (heap_alloc_new _ _)) (by simp [Value.oneCell']) (by decide) (by unfold maxLen;omega) (by omega) (by simp;omega) _ rfl ?_)))
       intro g7 cp7 w7 hown7 hgrow7 hat7 hlt7
       have HN7:=Hd (fd_push HO.out HTr.out HG.out.below HPi.out HB6.out HR6.out HNe.out hown7 hgrow7 (fun c hc=>by simp only [Value.ownBlock,Option.some.injEq] at hc;subst hc;rcases hat7 with h | h;exact .inl h;exact .inr (by rw [h];simp)))
       clear hown7 hgrow7 hat7 hlt7
       go_wp2_with fail
       go_roundg (P.length - (i + 1))
       case measure=>omega
       case rel=>exact ⟨i + 1,by omega,by omega,by rw [Int.natCast_add];rfl,HN7⟩
      ·obtain rfl:i = P.length:=by omega
       have HJ:=Hd (fun w' hb=>fd_joined HG.out (by omega) w' hb)
       have HQr:=Hd (HQ5.out.below HG.out.below)
       have HBr:=Hd (HBx.out.trans ((HB5.out.trans (HG.out.below.mono HB5.out.size)).mono HBx.out.size))
       obtain ⟨⟨x0,x1,x2,x3,x4,x5⟩,_⟩:=six_block HQr.out
       have hqr:=HQr.out.lt
       have HCl:=Hd (fun w' (hb:Below wr.heap.size wr w')=>(six_block (HQr.out.below hb)).1)
       have HJ1:=Hd (HJ.out wr.drew (Below.refl _ _).drew)
       have HJ2:=Hd (HJ.out (wr.alloc (.cells #[.int .i64 kk,.int .i64 n,.int .i64 pp,.int .i64 ii,.string sx,.string ty] 42)).drew ((Below.refl _ _).alloc (Nat.le_refl _) _).drew)
       have HNum:=Hd (show (P.map F).flatten.length + 1 ≤ maxLen ∧ ((P.map F).flatten.length + 1) * 64 ≤ 140737488355328 from ⟨by unfold maxLen;omega,by omega⟩)
       generalize (P.map F).flatten = J at *
       go_upto_region 16 with fail
       go_region_law ((first | (go_simp;go_at_call 73;(with_reducible refine HJ1.out.mono ?_);rintro e w6 ⟨⟨v6,rfl,hr6⟩,hb6⟩;have hb6':=(show Below wr.heap.size wr w6 from (Below.refl _ _).drew.trans (hb6.mono (Nat.le_refl _)));have HB6:=Hd hb6';have HO6:=Hd (show w6.ownsRow wr.heap.size 42 6 v6 J.length (J.flatMap ndCells) from own_le9 hr6 (by simp));have hs6:=hb6'.size;obtain ⟨y0,y1,y2,y3,y4,y5⟩:=HCl.out _ hb6';clear hr6 hb6 hb6') | (go_simp;go_at_call 73;(with_reducible refine HJ2.out.mono ?_);rintro e w6 ⟨⟨v6,rfl,hr6⟩,hb6⟩;have hb6':=(show Below wr.heap.size wr w6 from ((Below.refl _ _).alloc (Nat.le_refl _) _).drew.trans (hb6.mono (by simp)));have HB6:=Hd hb6';have HO6:=Hd (show w6.ownsRow wr.heap.size 42 6 v6 J.length (J.flatMap ndCells) from own_le9 hr6 (by simp));have hs6:=hb6'.size;have HL6:=Hd (show w6.heap[wr.heap.size]? = some (.cells #[.int .i64 kk,.int .i64 n,.int .i64 pp,.int .i64 ii,.string sx,.string ty] 42 (0,0)) from (hb6.block _ (by simp)).trans (heap_alloc_new wr _));obtain ⟨y0,y1,y2,y3,y4,y5⟩:=HCl.out _ hb6';clear hr6 hb6 hb6') | (refine step_append_lies _ (by rfl) _ _ _ (by rfl) wr.heap.size 42 in0 _ 6 64 Tryz.underlying23 HIn.out.1 HIn.out.2.1 HIn.out.2.2.1 HIn.out.2.2.2 (by rfl) (by omega) v6 J.length (J.flatMap ndCells) (by rfl) HO6.out ⟨wr.heap.size,0,none⟩ 1 1 [.int .i64 kk,.int .i64 n,.int .i64 pp,.int .i64 ii,.string sx,.string ty] (by rfl) (by rfl) (World.news_of_block (cs:=#[.int .i64 kk,.int .i64 n,.int .i64 pp,.int .i64 ii,.string sx,.string ty]) (t:=42) (fr:=(0,0)) HL6.out) (by simp [Value.oneCell']) (by omega) HNum.out.1 HNum.out.2 (by omega) w6.heap.size (by omega) ?_;intro g7 cp7 w7 hown7 hgrow7 hat7 hlt7;have HEnd:=Hd (fd_end (x:=⟨kk,n,pp,ii,sx,ty⟩) HBr.out HB6.out HO6.out hown7 hgrow7 HFin.out);clear hown7 hgrow7 hat7 hlt7) | (refine step_append_lies _ (by rfl) _ _ _ (by rfl) wr.heap.size 42 in0 _ 6 64 Tryz.underlying23 HIn.out.1 HIn.out.2.1 HIn.out.2.2.1 HIn.out.2.2.2 (by rfl) (by omega) v6 J.length (J.flatMap ndCells) (by rfl) (HO6.out.alloc _) ⟨w6.heap.size,0,none⟩ 1 1 [.int .i64 kk,.int .i64 n,.int .i64 pp,.int .i64 ii,.string sx,.string ty] (by rfl) (by rfl) (World.news_of_block (cs:=#[.int .i64 kk,.int .i64 n,.int .i64 pp,.int .i64 ii,.string sx,.string ty]) (t:=42) (fr:=(0,0)) (heap_alloc_new w6 _)) (by simp [Value.oneCell']) (by omega) HNum.out.1 HNum.out.2 (by simp;omega) (w6.heap.size + 1) (by simp) ?_;intro g7 cp7 w7 hown7 hgrow7 hat7 hlt7;have HEnd:=Hd (fd_end (x:=⟨kk,n,pp,ii,sx,ty⟩) HBr.out (HB6.out.alloc HB6.out.size _) (HO6.out.alloc _) hown7 hgrow7 HFin.out);clear hown7 hgrow7 hat7 hlt7)))
       all_goals
        go_wp2_with fail
        go_ret
        exact HEnd.out
   ·have hk16:kk ≠ 16:=fun h=>by have:=h16 h;cases this
    have HCd:=Hd (evalRaw1 HCc.out)
    have hrange:=HCv.out _ rfl
    go_upto_region 4 with (go_at_call 22;(with_reducible refine HCd.out.mono ?_);rintro e w3 ⟨rfl,hb3⟩;have HB3:=Hd hb3;clear hb3)
    have HN4:=Hd (numAt_new w3 (vt,vn))
    have HB34:=Hd (HB3.out.trans ((ba1 w3 (numO (vt,vn))).mono HB3.out.size))
    simp only [numO] at HN4 HB34
    generalize hnb:w3.heap.size = nb at *
    generalize w3.alloc (.cells #[.string vt,.int .i64 vn] 50) = w4 at *
    have HQx:=Hd (HQ.out.below HB34.out)
    have HFx:=Hd (HF2.out.below HB34.out)
    have HBx:=Hd (HB2.out.trans (HB34.out.mono HB2.out.size))
    clear x0 x1 x2 x3 x4 x5
    obtain ⟨⟨x0,x1,x2,x3,x4,x5⟩,_⟩:=six_block HQx.out
    obtain ⟨⟨y0,y1⟩,_⟩:=HN4.out.cells
    have HW:=Hd (written_ok (vt,vn) pp hrange w4)
    simp only at HW hrange
    have hwr:=hwA (some (vt,vn))
    simp only [Option.bind_some] at hwr
    clear hwA
    rcases hW:writeT (vt,vn) pp with _ | W
    ·rw [hW] at HW hwr
     unfold WrittenEnd at HW
     simp only at HW
     clear hW
     go_upto_region 8 with (go_at_call 72;(with_reducible refine HW.out.mono ?_);rintro e w6 ⟨rfl,hb6⟩;have HB6:=Hd hb6;clear hb6)
     have HFx':=Hd (HFx.out.below HB6.out)
     have HQx':=Hd (HQx.out.below HB6.out)
     have HBx':=Hd (HBx.out.trans (HB6.out.mono HBx.out.size))
     clear HFx HQx HBx y0 y1
     have HFx:=HFx'
     have HQx:=HQx'
     have HBx:=HBx'
     clear HFx' HQx' HBx'
     have k16:=hk16
     clear x0 x1 x2 x3 x4 x5 hk16
     have HWr:=Hd hwr
     clear hwr
     have q16:(kk == 16) = false:=by simpa using k16
     have HFin:=Hd (show (P.map F).flatten ++ [⟨kk,n,pp,ii,sx,ty⟩] = foldR (wrF (some (vt,vn)) ⟨kk,n,pp,ii,sx,ty⟩) ⟨kk,n,pp,ii,sx,ty⟩ (segN t s (k + 1)) (P.map F) from by rw [HWr.out];unfold foldR;simp only;rw [if_neg k16])
     clear k16
     obtain ⟨⟨x0,x1,x2,x3,x4,x5⟩,_⟩:=six_block HQx.out
     have HPc:=Hd (HPt.out w6 HFx.out)
     go_upto_region 12 with (go_at_call 74;(with_reducible refine HPc.out.mono ?_);rintro e w5 ⟨⟨v5,rfl,hrow5⟩,hb5⟩;obtain ⟨pa,pc,rfl,hps⟩:=PartEnd.row hrow5;have HPs:=Hd hps;have HB5:=Hd hb5;clear hrow5 hps hb5)
     clear x0 x1 x2 x3 x4 x5
     have HF5:=Hd (HFx.out.below HB5.out)
     have HQ5:=Hd (HQx.out.below HB5.out)
     have H0:=Hd (fd_start w5 P F w5 (Below.refl _ _))
     go_loopg [10,67] P.length (fun m v10 v67 wy=>∃ i:Nat,i ≤ P.length ∧ i + m = P.length ∧ v67 = .int .i64 (i:Int) ∧ Hid (FdInv w5 P F wy v10 i))
     case atStart=>exact ⟨0,by omega,by omega,rfl,H0⟩
     case round=>
      obtain ⟨i,hi,him,rfl,HG⟩:=hrel
      by_cases hlt:i < P.length
      ·obtain ⟨pb,po,hpa,hpl,c0⟩:=nats_at HPs.out hlt
       subst hpa
       rw [← HG.out.below.cell hpl] at c0
       have HPi:=Hd (List.getElem?_eq_getElem hlt)
       have hmem:=List.getElem_mem hlt
       have HK:=Hd (HIh.out P[i] hmem wr (HF5.out.below HG.out.below))
       have HNe:=Hd (HFne.out P[i] hmem)
       generalize P[i]'hlt = p at *
       clear hmem hpl
       obtain ⟨Vs,ho,ht⟩:=HG.out.row
       have HO:=Hd ho
       have HTr:=Hd ht
       have hsz5:=HG.out.below.size
       clear ho ht
       go_wp2_with (first | (go_at_call 42;(with_reducible refine HK.out.mono ?_);rintro e w6 ⟨⟨v6,rfl,hr6⟩,hb6⟩;obtain ⟨g6,c6,rfl,_⟩:=ndRow_cells hr6 HNe.out;have HR6:=Hd hr6;have HB6:=Hd hb6;have hs6:=hb6.size;clear hr6 hb6) | (at_builtin;go_loud (refine wpList_append_lies _ rfl _ _ _ rfl w5.heap.size 23 it0 (.slice none 0 0) 1 24 Tryz.underlying104 HIt.out.1 HIt.out.2.1 HIt.out.2.2.1 HIt.out.2.2.2 rfl (by decide) u10 i Vs rfl ((HO.out.belowed HB6.out).belowed (ba1 _ _)) ⟨w6.heap.size,0,none⟩ 1 1 [.slice (some ⟨g6,0,none⟩) (F p).length c6] rfl rfl (World.news_of_block (cs:=#[.slice (some ⟨g6,0,none⟩) (F p).length c6]) (heap_alloc_new _ _)) (by simp [Value.oneCell']) (by decide) (by unfold maxLen;omega) (by omega) (by simp;omega) _ rfl ?_)))
       intro g7 cp7 w7 hown7 hgrow7 hat7 hlt7
       have HN7:=Hd (fd_push HO.out HTr.out HG.out.below HPi.out HB6.out HR6.out HNe.out hown7 hgrow7 (fun c hc=>by simp only [Value.ownBlock,Option.some.injEq] at hc;subst hc;rcases hat7 with h | h;exact .inl h;exact .inr (by rw [h];simp)))
       clear hown7 hgrow7 hat7 hlt7
       go_wp2_with fail
       go_roundg (P.length - (i + 1))
       case measure=>omega
       case rel=>exact ⟨i + 1,by omega,by omega,by rw [Int.natCast_add];rfl,HN7⟩
      ·obtain rfl:i = P.length:=by omega
       have HJ:=Hd (fun w' hb=>fd_joined HG.out (by omega) w' hb)
       have HQr:=Hd (HQ5.out.below HG.out.below)
       have HBr:=Hd (HBx.out.trans ((HB5.out.trans (HG.out.below.mono HB5.out.size)).mono HBx.out.size))
       obtain ⟨⟨x0,x1,x2,x3,x4,x5⟩,_⟩:=six_block HQr.out
       have hqr:=HQr.out.lt
       have HCl:=Hd (fun w' (hb:Below wr.heap.size wr w')=>(six_block (HQr.out.below hb)).1)
       have HJ1:=Hd (HJ.out wr.drew (Below.refl _ _).drew)
       have HJ2:=Hd (HJ.out (wr.alloc (.cells #[.int .i64 kk,.int .i64 n,.int .i64 pp,.int .i64 ii,.string sx,.string ty] 42)).drew ((Below.refl _ _).alloc (Nat.le_refl _) _).drew)
       have HNum:=Hd (show (P.map F).flatten.length + 1 ≤ maxLen ∧ ((P.map F).flatten.length + 1) * 64 ≤ 140737488355328 from ⟨by unfold maxLen;omega,by omega⟩)
       generalize (P.map F).flatten = J at *
       go_upto_region 16 with fail
       go_region_law ((first | (go_simp;go_at_call 73;(with_reducible refine HJ1.out.mono ?_);rintro e w6 ⟨⟨v6,rfl,hr6⟩,hb6⟩;have hb6':=(show Below wr.heap.size wr w6 from (Below.refl _ _).drew.trans (hb6.mono (Nat.le_refl _)));have HB6:=Hd hb6';have HO6:=Hd (show w6.ownsRow wr.heap.size 42 6 v6 J.length (J.flatMap ndCells) from own_le9 hr6 (by simp));have hs6:=hb6'.size;obtain ⟨y0,y1,y2,y3,y4,y5⟩:=HCl.out _ hb6';clear hr6 hb6 hb6') | (go_simp;go_at_call 73;(with_reducible refine HJ2.out.mono ?_);rintro e w6 ⟨⟨v6,rfl,hr6⟩,hb6⟩;have hb6':=(show Below wr.heap.size wr w6 from ((Below.refl _ _).alloc (Nat.le_refl _) _).drew.trans (hb6.mono (by simp)));have HB6:=Hd hb6';have HO6:=Hd (show w6.ownsRow wr.heap.size 42 6 v6 J.length (J.flatMap ndCells) from own_le9 hr6 (by simp));have hs6:=hb6'.size;have HL6:=Hd (show w6.heap[wr.heap.size]? = some (.cells #[.int .i64 kk,.int .i64 n,.int .i64 pp,.int .i64 ii,.string sx,.string ty] 42 (0,0)) from (hb6.block _ (by simp)).trans (heap_alloc_new wr _));obtain ⟨y0,y1,y2,y3,y4,y5⟩:=HCl.out _ hb6';clear hr6 hb6 hb6') | (refine step_append_lies _ (by rfl) _ _ _ (by rfl) wr.heap.size 42 in0 _ 6 64 Tryz.underlying23 HIn.out.1 HIn.out.2.1 HIn.out.2.2.1 HIn.out.2.2.2 (by rfl) (by omega) v6 J.length (J.flatMap ndCells) (by rfl) HO6.out ⟨wr.heap.size,0,none⟩ 1 1 [.int .i64 kk,.int .i64 n,.int .i64 pp,.int .i64 ii,.string sx,.string ty] (by rfl) (by rfl) (World.news_of_block (cs:=#[.int .i64 kk,.int .i64 n,.int .i64 pp,.int .i64 ii,.string sx,.string ty]) (t:=42) (fr:=(0,0)) HL6.out) (by simp [Value.oneCell']) (by omega) HNum.out.1 HNum.out.2 (by omega) w6.heap.size (by omega) ?_;intro g7 cp7 w7 hown7 hgrow7 hat7 hlt7;have HEnd:=Hd (fd_end (x:=⟨kk,n,pp,ii,sx,ty⟩) HBr.out HB6.out HO6.out hown7 hgrow7 HFin.out);clear hown7 hgrow7 hat7 hlt7) | (refine step_append_lies _ (by rfl) _ _ _ (by rfl) wr.heap.size 42 in0 _ 6 64 Tryz.underlying23 HIn.out.1 HIn.out.2.1 HIn.out.2.2.1 HIn.out.2.2.2 (by rfl) (by omega) v6 J.length (J.flatMap ndCells) (by rfl) (HO6.out.alloc _) ⟨w6.heap.size,0,none⟩ 1 1 [.int .i64 kk,.int .i64 n,.int .i64 pp,.int .i64 ii,.string sx,.string ty] (by rfl) (by rfl) (World.news_of_block (cs:=#[.int .i64 kk,.int .i64 n,.int .i64 pp,.int .i64 ii,.string sx,.string ty]) (t:=42) (fr:=(0,0)) (heap_alloc_new w6 _)) (by simp [Value.oneCell']) (by omega) HNum.out.1 HNum.out.2 (by simp;omega) (w6.heap.size + 1) (by simp) ?_;intro g7 cp7 w7 hown7 hgrow7 hat7 hlt7;have HEnd:=Hd (fd_end (x:=⟨kk,n,pp,ii,sx,ty⟩) HBr.out (HB6.out.alloc HB6.out.size _) (HO6.out.alloc _) hown7 hgrow7 HFin.out);clear hown7 hgrow7 hat7 hlt7)))
       all_goals
        go_wp2_with fail
        go_ret
        exact HEnd.out
    ·rw [hW] at HW hwr
     unfold WrittenEnd at HW
     simp only at HW
     have HFin:=Hd (show W.flat = foldR (wrF (some (vt,vn)) ⟨kk,n,pp,ii,sx,ty⟩) ⟨kk,n,pp,ii,sx,ty⟩ (segN t s (k + 1)) (P.map F) from by rw [hwr];rfl)
     clear hW hwr
     go_wp2_with (go_at_call 72;(with_reducible refine HW.out.mono ?_);rintro e w6 ⟨⟨v6,rfl,hr6⟩,hb6⟩;have HR6:=Hd hr6;have HB6:=Hd hb6;clear hr6 hb6)
     go_ret
     rw [← HFin.out]
     exact foldEnd HR6.out HBx.out (HBx.out.trans (HB6.out.mono HBx.out.size))
  ·have t1:decide (1 < kk) = true:=by simpa using h1
   have t2:decide (kk ≤ 17) = false:=by simpa using h2
   have hwr:wrF c ⟨kk,n,pp,ii,sx,ty⟩ = none:=by unfold wrF;rw [if_neg (by simp;omega)]
   have HFx:=HF2
   have HBx:=HB2
   have HQx:=HQ
   have k16:kk ≠ 16:=by omega
   clear h1 h2
   have HWr:=Hd hwr
   clear hwr
   have q16:(kk == 16) = false:=by simpa using k16
   have HFin:=Hd (show (P.map F).flatten ++ [⟨kk,n,pp,ii,sx,ty⟩] = foldR (wrF c ⟨kk,n,pp,ii,sx,ty⟩) ⟨kk,n,pp,ii,sx,ty⟩ (segN t s (k + 1)) (P.map F) from by rw [HWr.out];unfold foldR;simp only;rw [if_neg k16])
   clear k16
   obtain ⟨⟨x0,x1,x2,x3,x4,x5⟩,_⟩:=six_block HQx.out
   have HPc:=Hd (HPt.out w2 HFx.out)
   go_upto_region 12 with (go_at_call 74;(with_reducible refine HPc.out.mono ?_);rintro e w5 ⟨⟨v5,rfl,hrow5⟩,hb5⟩;obtain ⟨pa,pc,rfl,hps⟩:=PartEnd.row hrow5;have HPs:=Hd hps;have HB5:=Hd hb5;clear hrow5 hps hb5)
   clear x0 x1 x2 x3 x4 x5
   have HF5:=Hd (HFx.out.below HB5.out)
   have HQ5:=Hd (HQx.out.below HB5.out)
   have H0:=Hd (fd_start w5 P F w5 (Below.refl _ _))
   go_loopg [10,67] P.length (fun m v10 v67 wy=>∃ i:Nat,i ≤ P.length ∧ i + m = P.length ∧ v67 = .int .i64 (i:Int) ∧ Hid (FdInv w5 P F wy v10 i))
   case atStart=>exact ⟨0,by omega,by omega,rfl,H0⟩
   case round=>
    obtain ⟨i,hi,him,rfl,HG⟩:=hrel
    by_cases hlt:i < P.length
    ·obtain ⟨pb,po,hpa,hpl,c0⟩:=nats_at HPs.out hlt
     subst hpa
     rw [← HG.out.below.cell hpl] at c0
     have HPi:=Hd (List.getElem?_eq_getElem hlt)
     have hmem:=List.getElem_mem hlt
     have HK:=Hd (HIh.out P[i] hmem wr (HF5.out.below HG.out.below))
     have HNe:=Hd (HFne.out P[i] hmem)
     generalize P[i]'hlt = p at *
     clear hmem hpl
     obtain ⟨Vs,ho,ht⟩:=HG.out.row
     have HO:=Hd ho
     have HTr:=Hd ht
     have hsz5:=HG.out.below.size
     clear ho ht
     go_wp2_with (first | (go_at_call 42;(with_reducible refine HK.out.mono ?_);rintro e w6 ⟨⟨v6,rfl,hr6⟩,hb6⟩;obtain ⟨g6,c6,rfl,_⟩:=ndRow_cells hr6 HNe.out;have HR6:=Hd hr6;have HB6:=Hd hb6;have hs6:=hb6.size;clear hr6 hb6) | (at_builtin;go_loud (refine wpList_append_lies _ rfl _ _ _ rfl w5.heap.size 23 it0 (.slice none 0 0) 1 24 Tryz.underlying104 HIt.out.1 HIt.out.2.1 HIt.out.2.2.1 HIt.out.2.2.2 rfl (by decide) u10 i Vs rfl ((HO.out.belowed HB6.out).belowed (ba1 _ _)) ⟨w6.heap.size,0,none⟩ 1 1 [.slice (some ⟨g6,0,none⟩) (F p).length c6] rfl rfl (World.news_of_block (cs:=#[.slice (some ⟨g6,0,none⟩) (F p).length c6]) (heap_alloc_new _ _)) (by simp [Value.oneCell']) (by decide) (by unfold maxLen;omega) (by omega) (by simp;omega) _ rfl ?_)))
     intro g7 cp7 w7 hown7 hgrow7 hat7 hlt7
     have HN7:=Hd (fd_push HO.out HTr.out HG.out.below HPi.out HB6.out HR6.out HNe.out hown7 hgrow7 (fun c hc=>by simp only [Value.ownBlock,Option.some.injEq] at hc;subst hc;rcases hat7 with h | h;exact .inl h;exact .inr (by rw [h];simp)))
     clear hown7 hgrow7 hat7 hlt7
     go_wp2_with fail
     go_roundg (P.length - (i + 1))
     case measure=>omega
     case rel=>exact ⟨i + 1,by omega,by omega,by rw [Int.natCast_add];rfl,HN7⟩
    ·obtain rfl:i = P.length:=by omega
     have HJ:=Hd (fun w' hb=>fd_joined HG.out (by omega) w' hb)
     have HQr:=Hd (HQ5.out.below HG.out.below)
     have HBr:=Hd (HBx.out.trans ((HB5.out.trans (HG.out.below.mono HB5.out.size)).mono HBx.out.size))
     obtain ⟨⟨x0,x1,x2,x3,x4,x5⟩,_⟩:=six_block HQr.out
     have hqr:=HQr.out.lt
     have HCl:=Hd (fun w' (hb:Below wr.heap.size wr w')=>(six_block (HQr.out.below hb)).1)
     have HJ1:=Hd (HJ.out wr.drew (Below.refl _ _).drew)
     have HJ2:=Hd (HJ.out (wr.alloc (.cells #[.int .i64 kk,.int .i64 n,.int .i64 pp,.int .i64 ii,.string sx,.string ty] 42)).drew ((Below.refl _ _).alloc (Nat.le_refl _) _).drew)
     have HNum:=Hd (show (P.map F).flatten.length + 1 ≤ maxLen ∧ ((P.map F).flatten.length + 1) * 64 ≤ 140737488355328 from ⟨by unfold maxLen;omega,by omega⟩)
     generalize (P.map F).flatten = J at *
     go_upto_region 16 with fail
     go_region_law ((first | (go_simp;go_at_call 73;(with_reducible refine HJ1.out.mono ?_);rintro e w6 ⟨⟨v6,rfl,hr6⟩,hb6⟩;have hb6':=(show Below wr.heap.size wr w6 from (Below.refl _ _).drew.trans (hb6.mono (Nat.le_refl _)));have HB6:=Hd hb6';have HO6:=Hd (show w6.ownsRow wr.heap.size 42 6 v6 J.length (J.flatMap ndCells) from own_le9 hr6 (by simp));have hs6:=hb6'.size;obtain ⟨y0,y1,y2,y3,y4,y5⟩:=HCl.out _ hb6';clear hr6 hb6 hb6') | (go_simp;go_at_call 73;(with_reducible refine HJ2.out.mono ?_);rintro e w6 ⟨⟨v6,rfl,hr6⟩,hb6⟩;have hb6':=(show Below wr.heap.size wr w6 from ((Below.refl _ _).alloc (Nat.le_refl _) _).drew.trans (hb6.mono (by simp)));have HB6:=Hd hb6';have HO6:=Hd (show w6.ownsRow wr.heap.size 42 6 v6 J.length (J.flatMap ndCells) from own_le9 hr6 (by simp));have hs6:=hb6'.size;have HL6:=Hd (show w6.heap[wr.heap.size]? = some (.cells #[.int .i64 kk,.int .i64 n,.int .i64 pp,.int .i64 ii,.string sx,.string ty] 42 (0,0)) from (hb6.block _ (by simp)).trans (heap_alloc_new wr _));obtain ⟨y0,y1,y2,y3,y4,y5⟩:=HCl.out _ hb6';clear hr6 hb6 hb6') | (refine step_append_lies _ (by rfl) _ _ _ (by rfl) wr.heap.size 42 in0 _ 6 64 Tryz.underlying23 HIn.out.1 HIn.out.2.1 HIn.out.2.2.1 HIn.out.2.2.2 (by rfl) (by omega) v6 J.length (J.flatMap ndCells) (by rfl) HO6.out ⟨wr.heap.size,0,none⟩ 1 1 [.int .i64 kk,.int .i64 n,.int .i64 pp,.int .i64 ii,.string sx,.string ty] (by rfl) (by rfl) (World.news_of_block (cs:=#[.int .i64 kk,.int .i64 n,.int .i64 pp,.int .i64 ii,.string sx,.string ty]) (t:=42) (fr:=(0,0)) HL6.out) (by simp [Value.oneCell']) (by omega) HNum.out.1 HNum.out.2 (by omega) w6.heap.size (by omega) ?_;intro g7 cp7 w7 hown7 hgrow7 hat7 hlt7;have HEnd:=Hd (fd_end (x:=⟨kk,n,pp,ii,sx,ty⟩) HBr.out HB6.out HO6.out hown7 hgrow7 HFin.out);clear hown7 hgrow7 hat7 hlt7) | (refine step_append_lies _ (by rfl) _ _ _ (by rfl) wr.heap.size 42 in0 _ 6 64 Tryz.underlying23 HIn.out.1 HIn.out.2.1 HIn.out.2.2.1 HIn.out.2.2.2 (by rfl) (by omega) v6 J.length (J.flatMap ndCells) (by rfl) (HO6.out.alloc _) ⟨w6.heap.size,0,none⟩ 1 1 [.int .i64 kk,.int .i64 n,.int .i64 pp,.int .i64 ii,.string sx,.string ty] (by rfl) (by rfl) (World.news_of_block (cs:=#[.int .i64 kk,.int .i64 n,.int .i64 pp,.int .i64 ii,.string sx,.string ty]) (t:=42) (fr:=(0,0)) (heap_alloc_new w6 _)) (by simp [Value.oneCell']) (by omega) HNum.out.1 HNum.out.2 (by simp;omega) (w6.heap.size + 1) (by simp) ?_;intro g7 cp7 w7 hown7 hgrow7 hat7 hlt7;have HEnd:=Hd (fd_end (x:=⟨kk,n,pp,ii,sx,ty⟩) HBr.out (HB6.out.alloc HB6.out.size _) (HO6.out.alloc _) hown7 hgrow7 HFin.out);clear hown7 hgrow7 hat7 hlt7)))
     all_goals
      go_wp2_with fail
      go_ret
      exact HEnd.out
 ·have t1:decide (1 < kk) = false:=by simpa using h1
  have hwr:wrF c ⟨kk,n,pp,ii,sx,ty⟩ = none:=by unfold wrF;rw [if_neg (by simp;omega)]
  have HFx:=HF2
  have HBx:=HB2
  have HQx:=HQ
  have k16:kk ≠ 16:=by omega
  clear h1
  have HWr:=Hd hwr
  clear hwr
  have q16:(kk == 16) = false:=by simpa using k16
  have HFin:=Hd (show (P.map F).flatten ++ [⟨kk,n,pp,ii,sx,ty⟩] = foldR (wrF c ⟨kk,n,pp,ii,sx,ty⟩) ⟨kk,n,pp,ii,sx,ty⟩ (segN t s (k + 1)) (P.map F) from by rw [HWr.out];unfold foldR;simp only;rw [if_neg k16])
  clear k16
  obtain ⟨⟨x0,x1,x2,x3,x4,x5⟩,_⟩:=six_block HQx.out
  have HPc:=Hd (HPt.out w2 HFx.out)
  go_upto_region 12 with (go_at_call 74;(with_reducible refine HPc.out.mono ?_);rintro e w5 ⟨⟨v5,rfl,hrow5⟩,hb5⟩;obtain ⟨pa,pc,rfl,hps⟩:=PartEnd.row hrow5;have HPs:=Hd hps;have HB5:=Hd hb5;clear hrow5 hps hb5)
  clear x0 x1 x2 x3 x4 x5
  have HF5:=Hd (HFx.out.below HB5.out)
  have HQ5:=Hd (HQx.out.below HB5.out)
  have H0:=Hd (fd_start w5 P F w5 (Below.refl _ _))
  go_loopg [10,67] P.length (fun m v10 v67 wy=>∃ i:Nat,i ≤ P.length ∧ i + m = P.length ∧ v67 = .int .i64 (i:Int) ∧ Hid (FdInv w5 P F wy v10 i))
  case atStart=>exact ⟨0,by omega,by omega,rfl,H0⟩
  case round=>
   obtain ⟨i,hi,him,rfl,HG⟩:=hrel
   by_cases hlt:i < P.length
   ·obtain ⟨pb,po,hpa,hpl,c0⟩:=nats_at HPs.out hlt
    subst hpa
    rw [← HG.out.below.cell hpl] at c0
    have HPi:=Hd (List.getElem?_eq_getElem hlt)
    have hmem:=List.getElem_mem hlt
    have HK:=Hd (HIh.out P[i] hmem wr (HF5.out.below HG.out.below))
    have HNe:=Hd (HFne.out P[i] hmem)
    generalize P[i]'hlt = p at *
    clear hmem hpl
    obtain ⟨Vs,ho,ht⟩:=HG.out.row
    have HO:=Hd ho
    have HTr:=Hd ht
    have hsz5:=HG.out.below.size
    clear ho ht
    go_wp2_with (first | (go_at_call 42;(with_reducible refine HK.out.mono ?_);rintro e w6 ⟨⟨v6,rfl,hr6⟩,hb6⟩;obtain ⟨g6,c6,rfl,_⟩:=ndRow_cells hr6 HNe.out;have HR6:=Hd hr6;have HB6:=Hd hb6;have hs6:=hb6.size;clear hr6 hb6) | (at_builtin;go_loud (refine wpList_append_lies _ rfl _ _ _ rfl w5.heap.size 23 it0 (.slice none 0 0) 1 24 Tryz.underlying104 HIt.out.1 HIt.out.2.1 HIt.out.2.2.1 HIt.out.2.2.2 rfl (by decide) u10 i Vs rfl ((HO.out.belowed HB6.out).belowed (ba1 _ _)) ⟨w6.heap.size,0,none⟩ 1 1 [.slice (some ⟨g6,0,none⟩) (F p).length c6] rfl rfl (World.news_of_block (cs:=#[.slice (some ⟨g6,0,none⟩) (F p).length c6]) (heap_alloc_new _ _)) (by simp [Value.oneCell']) (by decide) (by unfold maxLen;omega) (by omega) (by simp;omega) _ rfl ?_)))
    intro g7 cp7 w7 hown7 hgrow7 hat7 hlt7
    have HN7:=Hd (fd_push HO.out HTr.out HG.out.below HPi.out HB6.out HR6.out HNe.out hown7 hgrow7 (fun c hc=>by simp only [Value.ownBlock,Option.some.injEq] at hc;subst hc;rcases hat7 with h | h;exact .inl h;exact .inr (by rw [h];simp)))
    clear hown7 hgrow7 hat7 hlt7
    go_wp2_with fail
    go_roundg (P.length - (i + 1))
    case measure=>omega
    case rel=>exact ⟨i + 1,by omega,by omega,by rw [Int.natCast_add];rfl,HN7⟩
   ·obtain rfl:i = P.length:=by omega
    have HJ:=Hd (fun w' hb=>fd_joined HG.out (by omega) w' hb)
    have HQr:=Hd (HQ5.out.below HG.out.below)
    have HBr:=Hd (HBx.out.trans ((HB5.out.trans (HG.out.below.mono HB5.out.size)).mono HBx.out.size))
    obtain ⟨⟨x0,x1,x2,x3,x4,x5⟩,_⟩:=six_block HQr.out
    have hqr:=HQr.out.lt
    have HCl:=Hd (fun w' (hb:Below wr.heap.size wr w')=>(six_block (HQr.out.below hb)).1)
    have HJ1:=Hd (HJ.out wr.drew (Below.refl _ _).drew)
    have HJ2:=Hd (HJ.out (wr.alloc (.cells #[.int .i64 kk,.int .i64 n,.int .i64 pp,.int .i64 ii,.string sx,.string ty] 42)).drew ((Below.refl _ _).alloc (Nat.le_refl _) _).drew)
    have HNum:=Hd (show (P.map F).flatten.length + 1 ≤ maxLen ∧ ((P.map F).flatten.length + 1) * 64 ≤ 140737488355328 from ⟨by unfold maxLen;omega,by omega⟩)
    generalize (P.map F).flatten = J at *
    go_upto_region 16 with fail
    go_region_law ((first | (go_simp;go_at_call 73;(with_reducible refine HJ1.out.mono ?_);rintro e w6 ⟨⟨v6,rfl,hr6⟩,hb6⟩;have hb6':=(show Below wr.heap.size wr w6 from (Below.refl _ _).drew.trans (hb6.mono (Nat.le_refl _)));have HB6:=Hd hb6';have HO6:=Hd (show w6.ownsRow wr.heap.size 42 6 v6 J.length (J.flatMap ndCells) from own_le9 hr6 (by simp));have hs6:=hb6'.size;obtain ⟨y0,y1,y2,y3,y4,y5⟩:=HCl.out _ hb6';clear hr6 hb6 hb6') | (go_simp;go_at_call 73;(with_reducible refine HJ2.out.mono ?_);rintro e w6 ⟨⟨v6,rfl,hr6⟩,hb6⟩;have hb6':=(show Below wr.heap.size wr w6 from ((Below.refl _ _).alloc (Nat.le_refl _) _).drew.trans (hb6.mono (by simp)));have HB6:=Hd hb6';have HO6:=Hd (show w6.ownsRow wr.heap.size 42 6 v6 J.length (J.flatMap ndCells) from own_le9 hr6 (by simp));have hs6:=hb6'.size;have HL6:=Hd (show w6.heap[wr.heap.size]? = some (.cells #[.int .i64 kk,.int .i64 n,.int .i64 pp,.int .i64 ii,.string sx,.string ty] 42 (0,0)) from (hb6.block _ (by simp)).trans (heap_alloc_new wr _));obtain ⟨y0,y1,y2,y3,y4,y5⟩:=HCl.out _ hb6';clear hr6 hb6 hb6') | (refine step_append_lies _ (by rfl) _ _ _ (by rfl) wr.heap.size 42 in0 _ 6 64 Tryz.underlying23 HIn.out.1 HIn.out.2.1 HIn.out.2.2.1 HIn.out.2.2.2 (by rfl) (by omega) v6 J.length (J.flatMap ndCells) (by rfl) HO6.out ⟨wr.heap.size,0,none⟩ 1 1 [.int .i64 kk,.int .i64 n,.int .i64 pp,.int .i64 ii,.string sx,.string ty] (by rfl) (by rfl) (World.news_of_block (cs:=#[.int .i64 kk,.int .i64 n,.int .i64 pp,.int .i64 ii,.string sx,.string ty]) (t:=42) (fr:=(0,0)) HL6.out) (by simp [Value.oneCell']) (by omega) HNum.out.1 HNum.out.2 (by omega) w6.heap.size (by omega) ?_;intro g7 cp7 w7 hown7 hgrow7 hat7 hlt7;have HEnd:=Hd (fd_end (x:=⟨kk,n,pp,ii,sx,ty⟩) HBr.out HB6.out HO6.out hown7 hgrow7 HFin.out);clear hown7 hgrow7 hat7 hlt7) | (refine step_append_lies _ (by rfl) _ _ _ (by rfl) wr.heap.size 42 in0 _ 6 64 Tryz.underlying23 HIn.out.1 HIn.out.2.1 HIn.out.2.2.1 HIn.out.2.2.2 (by rfl) (by omega) v6 J.length (J.flatMap ndCells) (by rfl) (HO6.out.alloc _) ⟨w6.heap.size,0,none⟩ 1 1 [.int .i64 kk,.int .i64 n,.int .i64 pp,.int .i64 ii,.string sx,.string ty] (by rfl) (by rfl) (World.news_of_block (cs:=#[.int .i64 kk,.int .i64 n,.int .i64 pp,.int .i64 ii,.string sx,.string ty]) (t:=42) (fr:=(0,0)) (heap_alloc_new w6 _)) (by simp [Value.oneCell']) (by omega) HNum.out.1 HNum.out.2 (by simp;omega) (w6.heap.size + 1) (by simp) ?_;intro g7 cp7 w7 hown7 hgrow7 hat7 hlt7;have HEnd:=Hd (fd_end (x:=⟨kk,n,pp,ii,sx,ty⟩) HBr.out (HB6.out.alloc HB6.out.size _) (HO6.out.alloc _) hown7 hgrow7 HFin.out);clear hown7 hgrow7 hat7 hlt7)))
    all_goals
     go_wp2_with fail
     go_ret
     exact HEnd.out
end Go.Proofs.YtlcfejgjeljjdaaGreatDoor
