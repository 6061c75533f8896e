/- The type of a part: the program -/
import Derived.Test.YtlcfejgjeljjdaaGreatDoorFoldS
import Derived.Test.YtlcfejgjeljjdaaGreatDoorMg15
namespace Go.Proofs.YtlcfejgjeljjdaaGreatDoor
open Go.RowKit
def NodeAt (w:World) (q:Nat) (x:Nd):Prop:=w.heap[q]? = some (.cells #[.int .i64 x.kind,.int .i64 x.n,.int .i64 x.at_,.int .i64 x.int,.string x.text,.string x.type] 42 (0,0))
theorem nodeAt_new (w:World) (x:Nd):NodeAt (w.alloc (ndObj x)) w.heap.size x:=heap_alloc_new _ _
theorem NodeAt.lt {w:World} {q:Nat} {x:Nd} (h:NodeAt w q x):q < w.heap.size:=lt_of_heap h
theorem NodeAt.below {w w':World} {q:Nat} {x:Nd} (h:NodeAt w q x) (hb:Below w.heap.size w w'):NodeAt w' q x:=(hb.block _ h.lt).trans h
abbrev set6 (w:World) (q:Nat) (x:Nd):World:=(((((w.setCell ⟨q,0,none⟩ (.int .i64 x.kind)).setCell ⟨q,1,none⟩ (.int .i64 x.n)).setCell ⟨q,2,none⟩ (.int .i64 x.at_)).setCell ⟨q,3,none⟩ (.int .i64 x.int)).setCell ⟨q,4,none⟩ (.string x.text)).setCell ⟨q,5,none⟩ (.string x.type)
theorem NodeAt.set {w:World} {q:Nat} {y:Nd} (h:NodeAt w q y) (x:Nd):NodeAt (set6 w q x) q x:=by
 unfold NodeAt set6 at *
 simp [World.setCell,Array.getElem?_modify,h]
theorem below_set6 {n:Nat} {w0 w:World} (h:Below n w0 w) {q:Nat} (hc:n ≤ q) (x:Nd):Below n w0 (set6 w q x):=(((((h.setCell hc _).setCell hc _).setCell hc _).setCell hc _).setCell hc _).setCell hc _
def PlacesV (w:World) (v:Value) (P:List Nat):Prop:=∃ a cap,v = .slice a P.length cap ∧ IsNats w.heap.size w a P
theorem PlacesV.below {w w':World} {v:Value} {P:List Nat} (h:PlacesV w v P) (hb:Below w.heap.size w w'):PlacesV w' v P:=by
 obtain ⟨a,cap,e,h⟩:=h
 exact ⟨a,cap,e,(h.below hb (Nat.le_refl _)).mono hb.size⟩
theorem PartEnd.row {P:List Nat} {w w':World} {v:Value} (h:NatRow w' w.heap.size v P):PlacesV w' v P:=by
 obtain ⟨a,cap,e,h,_⟩:=h.is
 exact ⟨a,cap,e,h⟩
theorem six_set {w w':World} {q:Nat} (h:∀ b,b ≠ q → w'.heap[b]? = w.heap[b]?) (hs:w'.heap.size = w.heap.size) {v:Value} {P:List Nat} (hP:PlacesV w v P) (hq:∀ a n c,v = .slice a n c → ∀ b o,a = some ⟨b,o,none⟩ → b ≠ q):PlacesV w' v P:=by
 obtain ⟨a,cap,e,hI⟩:=hP
 refine ⟨a,cap,e,fun hne=>?_⟩
 obtain ⟨b,off,ea,hlt,hc⟩:=hI hne
 refine ⟨b,off,ea,by rw [hs];exact hlt,fun i x hx j y hy=>?_⟩
 rw [← hc i x hx j y hy]
 have:=h b (hq _ _ _ e b off ea)
 unfold World.cell?
 rw [this]
theorem set6_other (w:World) (q:Nat) (x:Nd) (b:Nat) (h:b ≠ q):(set6 w q x).heap[b]? = w.heap[b]?:=by
 unfold set6
 rw [Below.heap_setCell _ _ _ _ h,Below.heap_setCell _ _ _ _ h,Below.heap_setCell _ _ _ _ h,Below.heap_setCell _ _ _ _ h,Below.heap_setCell _ _ _ _ h,Below.heap_setCell _ _ _ _ h]
theorem set6_size (w:World) (q:Nat) (x:Nd):(set6 w q x).heap.size = w.heap.size:=by
 unfold set6
 simp [World.setCell]
theorem PlacesV.set6 {w1 w:World} {q:Nat} {x:Nd} {v:Value} {P:List Nat} (h:NatRow w w1.heap.size v P) (hq:q < w1.heap.size):PlacesV (set6 w q x) v P:=by
 have hP:=PartEnd.row h
 refine six_set (fun b hb=>set6_other w q x b hb) (set6_size w q x) hP fun a n c e b o ea=>?_
 rcases h.2 with ⟨rfl,_⟩ | ⟨g,cc,_,rfl,hb,_⟩
 ·cases e;cases ea
 ·cases e;cases ea;omega
def KindEnd (K:ByteArray) (w:World) (e:Ending) (w':World):Prop:=e = .returned (.string K) ∧ Below w.heap.size w w'
theorem kindEnd {K:ByteArray} {w w1:World} (hb:Below w.heap.size w w1) {s:ByteArray} (h:s = K):KindEnd K w (.returned (.string s)) w1:=⟨by rw [h],hb⟩
theorem getD_map {α:Type} (K:Nat → α) (P:List Nat) (i:Nat) (d:α) (h:i < P.length):(P.map K).getD i d = K P[i]:=by simp [List.getD,h]
set_option maxRecDepth 100000 in
set_option maxHeartbeats 8000000 in
theorem kind_step {f:Nat} {a:Option Addr} {cap:Nat} {t:List Nd} {l:Option Addr} {lc:Nat} {L:List Sr} {mv:List Value} {b:Option Addr} {cb:Nat} {fr:List Nat} {B:Nat} {k:Nat} {x:Nd} {P:List Nat} {K:Nat → ByteArray} (w:World) (hFo:FoldAt B w f a cap t l lc L mv b cb fr) (hl:t.length ≤ 4096) (hf:Formed t fr) (hx:t[k]? = some x) (hP:partsAt t fr k = P)
 (hk:x.kind = 1 ∨ x.kind = 9 ∨ x.kind = 7 ∨ x.kind = 4 ∨ x.kind = 15 ∨ x.kind = 17) (h4:x.kind = 4 → P.length = 1) (h7:x.kind = 7 → P.length = 2) (h9:x.kind = 9 → P.length = 3) (hI:∀ p ∈ P,IntT (K p))
 (ih:∀ p ∈ P,∀ w',FoldAt B w' f a cap t l lc L mv b cb fr → Calls Tryz.prog 80 #[.pointer (some ⟨f,0,none⟩),.int .i64 (p:Int)] w' (KindEnd (K p) w')) :
 Calls Tryz.prog 80 #[.pointer (some ⟨f,0,none⟩),.int .i64 (k:Int)] w (KindEnd (kindN x (P.map K)) w):=by
 obtain ⟨hkl,hgx⟩:=List.getElem?_eq_some_iff.1 hx
 have HPt:=Hd (fun w' (h:FoldAt B w' f a cap t l lc L mv b cb fr)=>hP ▸ fparts_ok w' h hl hf k hkl)
 obtain ⟨z0,_,_⟩:=hFo.cells
 obtain ⟨ba,off,ha,hbl,x0,x1,x2,x3,x4,x5⟩:=nds_at hFo.nodes hkl
 rw [hgx] at x0 x1 x2 x3 x4 x5
 subst ha
 have HF:=Hd hFo
 have HIh:=Hd ih
 have HI:=Hd hI
 have hfw:=Nat.lt_of_lt_of_le hFo.flt hFo.le
 have haw:=Nat.lt_of_lt_of_le hbl hFo.le
 have HCl:=Hd (fun w' (h:Below w.heap.size w w')=>show w'.cell? ⟨f,0,none⟩ = some (.slice (some ⟨ba,off,none⟩) t.length cap) ∧ w'.cell? ⟨ba,off + k * 6,none⟩ = some (.int .i64 x.kind) ∧ w'.cell? ⟨ba,off + k * 6 + 1,none⟩ = some (.int .i64 x.n) ∧ w'.cell? ⟨ba,off + k * 6 + 2,none⟩ = some (.int .i64 x.at_) ∧ w'.cell? ⟨ba,off + k * 6 + 3,none⟩ = some (.int .i64 x.int) ∧ w'.cell? ⟨ba,off + k * 6 + 4,none⟩ = some (.string x.text) ∧ w'.cell? ⟨ba,off + k * 6 + 5,none⟩ = some (.string x.type) from by
  rw [h.cell hfw,h.cell haw,h.cell haw,h.cell haw,h.cell haw,h.cell haw,h.cell haw];exact ⟨z0,x0,x1,x2,x3,x4,x5⟩)
 clear hFo ih hI hf hx hP hgx
 go_enter Tryz.func80,Tryz.ntmps80
 go_upto_region 1 with fail
 have HP1:=Hd (HPt.out w.drew (HF.out.below (Below.refl _ _).drew))
 have HP2:=Hd (HPt.out (w.alloc (ndObj ⟨0,0,0,0,⟨#[]⟩,⟨#[]⟩⟩)).drew (HF.out.below ((Below.refl _ _).alloc (Nat.le_refl _) _).drew))
 have HZ:=Hd (nodeAt_new w ⟨0,0,0,0,⟨#[]⟩,⟨#[]⟩⟩)
 simp only [ndObj] at HP2 HZ
 go_cut [5,6] (fun s5 s6 wx=>Hid (∃ q,s5 = .pointer (some ⟨q,0,none⟩) ∧ NodeAt wx q x ∧ PlacesV wx s6 P ∧ Below w.heap.size w wx))
 case first=>
  go_region_held3 (fun w'=>w'.cell? ⟨f,0,none⟩ = some (.slice (some ⟨ba,off,none⟩) t.length cap) ∧ w'.cell? ⟨ba,off + k * 6,none⟩ = some (.int .i64 x.kind) ∧ w'.cell? ⟨ba,off + k * 6 + 1,none⟩ = some (.int .i64 x.n) ∧ w'.cell? ⟨ba,off + k * 6 + 2,none⟩ = some (.int .i64 x.at_) ∧ w'.cell? ⟨ba,off + k * 6 + 3,none⟩ = some (.int .i64 x.int) ∧ w'.cell? ⟨ba,off + k * 6 + 4,none⟩ = some (.string x.text) ∧ w'.cell? ⟨ba,off + k * 6 + 5,none⟩ = some (.string x.type))
   ((refine HCl.out _ ?_;first | with_reducible exact (Below.refl _ _).drew | with_reducible exact ((Below.refl _ _).alloc (Nat.le_refl _) _).drew | with_reducible exact (HB2).out | (have hq:=HB2;with_reducible exact hq.out.alloc hq.out.size _) | (have hq:=HB2;with_reducible exact below_set6 hq.out (Nat.le_refl _) x)))
   (first
     | (go_at_call 74;(with_reducible refine HP1.out.mono ?_);rintro e w2 ⟨⟨v2,rfl,hrow⟩,hb2⟩;have HB2:=Hd (show Below w.heap.size w w2 from (Below.refl _ _).drew.trans (hb2.mono (Nat.le_refl _)));have HRow:=Hd (PartEnd.row hrow);clear hb2 hrow)
     | (go_at_call 74;(with_reducible refine HP2.out.mono ?_);rintro e w2 ⟨⟨v2,rfl,hrow⟩,hb2⟩;have HB2:=Hd (show Below w.heap.size w w2 from ((Below.refl _ _).alloc (Nat.le_refl _) _).drew.trans (hb2.mono (by simp)));have hqn:=(show NodeAt w2 w.heap.size _ from (HZ.out.below (Below.refl _ _).drew).below hb2);have HQ:=Hd hqn;have HRw:=Hd hrow;obtain ⟨⟨q0,q1,q2,q3,q4,q5⟩,qf⟩:=six_block hqn;have qf0:=qf 0;have qf1:=qf 1;have qf2:=qf 2;have qf3:=qf 3;have qf4:=qf 4;have qf5:=qf 5;clear hb2 qf hqn hrow))
  all_goals go_wp2_with fail
  all_goals go_meet
  all_goals refine Hd ⟨_,rfl,?_,?_,?_⟩
  ·exact nodeAt_new _ x
  ·exact HRow.out.below (ba1 _ _)
  ·exact HB2.out.alloc HB2.out.size _
  ·exact HQ.out.set x
  ·exact PlacesV.set6 HRw.out (by simp)
  ·exact below_set6 HB2.out (Nat.le_refl _) x
 case rest=>
  clear z0 x0 x1 x2 x3 x4 x5 HCl HP1 HP2 HZ HPt
  obtain ⟨q,rfl,hq,hpv,hbx⟩:=hcut.out
  obtain ⟨pa,pc,rfl,hps⟩:=hpv
  have HFx:=Hd (HF.out.below hbx)
  have HBx:=Hd hbx
  have HPs:=Hd hps
  have HQ:=Hd hq
  obtain ⟨⟨x0,_,_,_,x4,x5⟩,_⟩:=six_block hq
  obtain ⟨kk,n,pp,ii,sx,ty⟩:=x
  clear hq hps hbx hcut
  simp only at hk h4 h7 h9 x0 x4 x5
  rcases hk with rfl | rfl | rfl | rfl | rfl | rfl
  ·clear h4 h7 h9
   go_wp2_with fail
   go_ret
   exact kindEnd HBx.out rfl
  ·have hlen:=h9 rfl
   clear h4 h7 h9
   have hm1:1 < P.length:=by omega
   have HK1:=Hd (HIh.out P[1] (List.getElem_mem hm1))
   have HT1:=Hd (HI.out P[1] (List.getElem_mem hm1))
   obtain ⟨pb,po,hpa,hpl,c1⟩:=nats_at HPs.out hm1
   subst hpa
   have hm2:2 < P.length:=by omega
   have HK2:=Hd (HIh.out P[2] (List.getElem_mem hm2))
   have HT2:=Hd (HI.out P[2] (List.getElem_mem hm2))
   obtain ⟨pb,po,hpa,hpl,c2⟩:=nats_at HPs.out hm2
   cases hpa
   have HV:=Hd (commonV_int HT1.out HT2.out)
   have HKi:=Hd (getD_map K P 1 ⟨#[]⟩ hm1)
   have HKj:=Hd (getD_map K P 2 ⟨#[]⟩ hm2)
   have HCp:=Hd (fun w' (h:Below wc.heap.size wc w')=>show w'.cell? ⟨pb,po + 1,none⟩ = some (.int .i64 ((P[1]:Nat):Int)) ∧ w'.cell? ⟨pb,po + 2,none⟩ = some (.int .i64 ((P[2]:Nat):Int)) from by rw [h.cell hpl,h.cell hpl];exact ⟨c1,c2⟩)
   generalize P[1] = p1 at *
   generalize P[2] = p2 at *
   generalize hki:K p1 = ki at *
   generalize hkj:K p2 = kj at *
   clear hki hkj hpl HPs HIh HI HQ
   have HCm:=Hd (fun w' (h:Below wc.heap.size wc w')=>HV.out ▸ common_ok ki kj w' (HFx.out.below h).te)
   go_upto_region 14 with fail
   go_region_held3 (fun w'=>w'.cell? ⟨pb,po + 1,none⟩ = some (.int .i64 (p1:Int)) ∧ w'.cell? ⟨pb,po + 2,none⟩ = some (.int .i64 (p2:Int)))
    ((refine HCp.out _ ?_;first | with_reducible exact (Below.refl _ _).drew | with_reducible exact (HB3).out | with_reducible exact (HB4).out | with_reducible exact (HB5).out))
    (first
      | (go_at_call_of 80 p1;(with_reducible refine (HK1.out _ (HFx.out.below (Below.refl _ _).drew)).mono ?_);rintro e w3 ⟨rfl,hb3⟩;have HB3:=Hd (show Below wc.heap.size wc w3 from (Below.refl _ _).drew.trans (hb3.mono (Nat.le_refl _)));clear hb3)
      | (go_at_call_of 80 p2;(with_reducible refine (HK2.out _ (HFx.out.below (Below.refl _ _).drew)).mono ?_);rintro e w3 ⟨rfl,hb3⟩;have HB3:=Hd (show Below wc.heap.size wc w3 from (Below.refl _ _).drew.trans (hb3.mono (Nat.le_refl _)));clear hb3)
      | (go_at_call_of 80 p1;(with_reducible refine (HK1.out _ (HFx.out.below HB3.out)).mono ?_);rintro e w4 ⟨rfl,hb4⟩;have HB4:=Hd (show Below wc.heap.size wc w4 from HB3.out.trans (hb4.mono HB3.out.size));clear hb4)
      | (go_at_call_of 80 p2;(with_reducible refine (HK2.out _ (HFx.out.below HB3.out)).mono ?_);rintro e w4 ⟨rfl,hb4⟩;have HB4:=Hd (show Below wc.heap.size wc w4 from HB3.out.trans (hb4.mono HB3.out.size));clear hb4)
      | (go_at_call 59;(with_reducible refine (HCm.out _ HB4.out).mono ?_);rintro e w5 ⟨rfl,hb5⟩;have HB5:=Hd (show Below wc.heap.size wc w5 from HB4.out.trans (hb5.mono HB4.out.size));clear hb5))
   all_goals
    go_wp2_with fail
    go_ret
    refine kindEnd (HBx.out.trans (HB5.out.mono HBx.out.size)) ?_
    show commI ki kj = commI ((P.map K).getD 1 ⟨#[]⟩) ((P.map K).getD 2 ⟨#[]⟩)
    rw [HKi.out,HKj.out]
  ·have hlen:=h7 rfl
   clear h4 h7 h9
   by_cases m0:sx = mLt
   ·subst m0
    have t0:(mLt.toList == [60]) = true:=lit_eq rfl rfl
    have HFin:=Hd (show iText12 = madeK mLt ((P.map K).getD 0 ⟨#[]⟩) ((P.map K).getD 1 ⟨#[]⟩) from rfl)
    generalize mLt = sx at *
    go_wp2_with fail
    go_ret
    exact kindEnd HBx.out HFin.out
   by_cases m1:sx = mGt
   ·subst m1
    have t0:(mGt.toList == [60]) = false:=lit_eq rfl rfl
    have t1:(mGt.toList == [62]) = true:=lit_eq rfl rfl
    have HFin:=Hd (show iText12 = madeK mGt ((P.map K).getD 0 ⟨#[]⟩) ((P.map K).getD 1 ⟨#[]⟩) from rfl)
    generalize mGt = sx at *
    go_wp2_with fail
    go_ret
    exact kindEnd HBx.out HFin.out
   by_cases m2:sx = mLe
   ·subst m2
    have t0:(mLe.toList == [60]) = false:=lit_eq rfl rfl
    have t1:(mLe.toList == [62]) = false:=lit_eq rfl rfl
    have t2:(mLe.toList == [60,61]) = true:=lit_eq rfl rfl
    have HFin:=Hd (show iText12 = madeK mLe ((P.map K).getD 0 ⟨#[]⟩) ((P.map K).getD 1 ⟨#[]⟩) from rfl)
    generalize mLe = sx at *
    go_wp2_with fail
    go_ret
    exact kindEnd HBx.out HFin.out
   by_cases m3:sx = mGe
   ·subst m3
    have t0:(mGe.toList == [60]) = false:=lit_eq rfl rfl
    have t1:(mGe.toList == [62]) = false:=lit_eq rfl rfl
    have t2:(mGe.toList == [60,61]) = false:=lit_eq rfl rfl
    have t3:(mGe.toList == [62,61]) = true:=lit_eq rfl rfl
    have HFin:=Hd (show iText12 = madeK mGe ((P.map K).getD 0 ⟨#[]⟩) ((P.map K).getD 1 ⟨#[]⟩) from rfl)
    generalize mGe = sx at *
    go_wp2_with fail
    go_ret
    exact kindEnd HBx.out HFin.out
   by_cases m4:sx = mEq
   ·subst m4
    have t0:(mEq.toList == [60]) = false:=lit_eq rfl rfl
    have t1:(mEq.toList == [62]) = false:=lit_eq rfl rfl
    have t2:(mEq.toList == [60,61]) = false:=lit_eq rfl rfl
    have t3:(mEq.toList == [62,61]) = false:=lit_eq rfl rfl
    have t4:(mEq.toList == [61,61]) = true:=lit_eq rfl rfl
    have HFin:=Hd (show iText12 = madeK mEq ((P.map K).getD 0 ⟨#[]⟩) ((P.map K).getD 1 ⟨#[]⟩) from rfl)
    generalize mEq = sx at *
    go_wp2_with fail
    go_ret
    exact kindEnd HBx.out HFin.out
   by_cases m5:sx = mNe
   ·subst m5
    have t0:(mNe.toList == [60]) = false:=lit_eq rfl rfl
    have t1:(mNe.toList == [62]) = false:=lit_eq rfl rfl
    have t2:(mNe.toList == [60,61]) = false:=lit_eq rfl rfl
    have t3:(mNe.toList == [62,61]) = false:=lit_eq rfl rfl
    have t4:(mNe.toList == [61,61]) = false:=lit_eq rfl rfl
    have t5:(mNe.toList == [33,61]) = true:=lit_eq rfl rfl
    have HFin:=Hd (show iText12 = madeK mNe ((P.map K).getD 0 ⟨#[]⟩) ((P.map K).getD 1 ⟨#[]⟩) from rfl)
    generalize mNe = sx at *
    go_wp2_with fail
    go_ret
    exact kindEnd HBx.out HFin.out
   by_cases m6:sx = mAnd2
   ·subst m6
    have t0:(mAnd2.toList == [60]) = false:=lit_eq rfl rfl
    have t1:(mAnd2.toList == [62]) = false:=lit_eq rfl rfl
    have t2:(mAnd2.toList == [60,61]) = false:=lit_eq rfl rfl
    have t3:(mAnd2.toList == [62,61]) = false:=lit_eq rfl rfl
    have t4:(mAnd2.toList == [61,61]) = false:=lit_eq rfl rfl
    have t5:(mAnd2.toList == [33,61]) = false:=lit_eq rfl rfl
    have t6:(mAnd2.toList == [38,38]) = true:=lit_eq rfl rfl
    have HFin:=Hd (show iText12 = madeK mAnd2 ((P.map K).getD 0 ⟨#[]⟩) ((P.map K).getD 1 ⟨#[]⟩) from rfl)
    generalize mAnd2 = sx at *
    go_wp2_with fail
    go_ret
    exact kindEnd HBx.out HFin.out
   by_cases m7:sx = mOr2
   ·subst m7
    have t0:(mOr2.toList == [60]) = false:=lit_eq rfl rfl
    have t1:(mOr2.toList == [62]) = false:=lit_eq rfl rfl
    have t2:(mOr2.toList == [60,61]) = false:=lit_eq rfl rfl
    have t3:(mOr2.toList == [62,61]) = false:=lit_eq rfl rfl
    have t4:(mOr2.toList == [61,61]) = false:=lit_eq rfl rfl
    have t5:(mOr2.toList == [33,61]) = false:=lit_eq rfl rfl
    have t6:(mOr2.toList == [38,38]) = false:=lit_eq rfl rfl
    have t7:(mOr2.toList == [124,124]) = true:=lit_eq rfl rfl
    have HFin:=Hd (show iText12 = madeK mOr2 ((P.map K).getD 0 ⟨#[]⟩) ((P.map K).getD 1 ⟨#[]⟩) from rfl)
    generalize mOr2 = sx at *
    go_wp2_with fail
    go_ret
    exact kindEnd HBx.out HFin.out
   by_cases m8:sx = mShl
   ·subst m8
    have t0:(mShl.toList == [60]) = false:=lit_eq rfl rfl
    have t1:(mShl.toList == [62]) = false:=lit_eq rfl rfl
    have t2:(mShl.toList == [60,61]) = false:=lit_eq rfl rfl
    have t3:(mShl.toList == [62,61]) = false:=lit_eq rfl rfl
    have t4:(mShl.toList == [61,61]) = false:=lit_eq rfl rfl
    have t5:(mShl.toList == [33,61]) = false:=lit_eq rfl rfl
    have t6:(mShl.toList == [38,38]) = false:=lit_eq rfl rfl
    have t7:(mShl.toList == [124,124]) = false:=lit_eq rfl rfl
    have t8:(mShl.toList == [60,60]) = true:=lit_eq rfl rfl
    have HFin:=Hd (show promI ((P.map K).getD 0 ⟨#[]⟩) = madeK mShl ((P.map K).getD 0 ⟨#[]⟩) ((P.map K).getD 1 ⟨#[]⟩) from rfl)
    generalize mShl = sx at *
    have hm0:0 < P.length:=by omega
    have HK0:=Hd (HIh.out P[0] (List.getElem_mem hm0))
    have HT0:=Hd (HI.out P[0] (List.getElem_mem hm0))
    obtain ⟨pb,po,hpa,hpl,c0⟩:=nats_at HPs.out hm0
    rw [Nat.add_zero] at c0
    subst hpa
    have HV:=Hd (promoteV_int HT0.out)
    have HKi:=Hd (getD_map K P 0 ⟨#[]⟩ hm0)
    generalize P[0] = p0 at *
    generalize hki:K p0 = ki at *
    clear hki hpl HPs HIh HI HQ
    have HK:=Hd (HK0.out wc HFx.out)
    have HCm:=Hd (fun w' (h:Below wc.heap.size wc w')=>HV.out ▸ promote_ok ki w' (HFx.out.below h).te)
    go_wp2_with (first | (go_at_call 80;(with_reducible refine HK.out.mono ?_);rintro e w3 ⟨rfl,hb3⟩;have HB3:=Hd hb3;clear hb3) | (go_at_call 89;(with_reducible refine (HCm.out _ HB3.out).mono ?_);rintro e w5 ⟨rfl,hb5⟩;have HB5:=Hd (show Below wc.heap.size wc w5 from HB3.out.trans (hb5.mono HB3.out.size));clear hb5))
    go_ret
    refine kindEnd (HBx.out.trans (HB5.out.mono HBx.out.size)) ?_
    refine Eq.trans ?_ HFin.out
    rw [HKi.out]
   by_cases m9:sx = mShr
   ·subst m9
    have t0:(mShr.toList == [60]) = false:=lit_eq rfl rfl
    have t1:(mShr.toList == [62]) = false:=lit_eq rfl rfl
    have t2:(mShr.toList == [60,61]) = false:=lit_eq rfl rfl
    have t3:(mShr.toList == [62,61]) = false:=lit_eq rfl rfl
    have t4:(mShr.toList == [61,61]) = false:=lit_eq rfl rfl
    have t5:(mShr.toList == [33,61]) = false:=lit_eq rfl rfl
    have t6:(mShr.toList == [38,38]) = false:=lit_eq rfl rfl
    have t7:(mShr.toList == [124,124]) = false:=lit_eq rfl rfl
    have t8:(mShr.toList == [60,60]) = false:=lit_eq rfl rfl
    have t9:(mShr.toList == [62,62]) = true:=lit_eq rfl rfl
    have HFin:=Hd (show promI ((P.map K).getD 0 ⟨#[]⟩) = madeK mShr ((P.map K).getD 0 ⟨#[]⟩) ((P.map K).getD 1 ⟨#[]⟩) from rfl)
    generalize mShr = sx at *
    have hm0:0 < P.length:=by omega
    have HK0:=Hd (HIh.out P[0] (List.getElem_mem hm0))
    have HT0:=Hd (HI.out P[0] (List.getElem_mem hm0))
    obtain ⟨pb,po,hpa,hpl,c0⟩:=nats_at HPs.out hm0
    rw [Nat.add_zero] at c0
    subst hpa
    have HV:=Hd (promoteV_int HT0.out)
    have HKi:=Hd (getD_map K P 0 ⟨#[]⟩ hm0)
    generalize P[0] = p0 at *
    generalize hki:K p0 = ki at *
    clear hki hpl HPs HIh HI HQ
    have HK:=Hd (HK0.out wc HFx.out)
    have HCm:=Hd (fun w' (h:Below wc.heap.size wc w')=>HV.out ▸ promote_ok ki w' (HFx.out.below h).te)
    go_wp2_with (first | (go_at_call 80;(with_reducible refine HK.out.mono ?_);rintro e w3 ⟨rfl,hb3⟩;have HB3:=Hd hb3;clear hb3) | (go_at_call 89;(with_reducible refine (HCm.out _ HB3.out).mono ?_);rintro e w5 ⟨rfl,hb5⟩;have HB5:=Hd (show Below wc.heap.size wc w5 from HB3.out.trans (hb5.mono HB3.out.size));clear hb5))
    go_ret
    refine kindEnd (HBx.out.trans (HB5.out.mono HBx.out.size)) ?_
    refine Eq.trans ?_ HFin.out
    rw [HKi.out]
   have HFin:=Hd (show commI ((P.map K).getD 0 ⟨#[]⟩) ((P.map K).getD 1 ⟨#[]⟩) = madeK sx ((P.map K).getD 0 ⟨#[]⟩) ((P.map K).getD 1 ⟨#[]⟩) from by unfold madeK;simp [m0,m1,m2,m3,m4,m5,m6,m7,m8,m9])
   have t0:(sx.toList == [60]) = false:=lit_ne (fun e=>m0 (bytes_of e))
   have t1:(sx.toList == [62]) = false:=lit_ne (fun e=>m1 (bytes_of e))
   have t2:(sx.toList == [60,61]) = false:=lit_ne (fun e=>m2 (bytes_of e))
   have t3:(sx.toList == [62,61]) = false:=lit_ne (fun e=>m3 (bytes_of e))
   have t4:(sx.toList == [61,61]) = false:=lit_ne (fun e=>m4 (bytes_of e))
   have t5:(sx.toList == [33,61]) = false:=lit_ne (fun e=>m5 (bytes_of e))
   have t6:(sx.toList == [38,38]) = false:=lit_ne (fun e=>m6 (bytes_of e))
   have t7:(sx.toList == [124,124]) = false:=lit_ne (fun e=>m7 (bytes_of e))
   have t8:(sx.toList == [60,60]) = false:=lit_ne (fun e=>m8 (bytes_of e))
   have t9:(sx.toList == [62,62]) = false:=lit_ne (fun e=>m9 (bytes_of e))
   clear m0 m1 m2 m3 m4 m5 m6 m7 m8 m9
   have hm0:0 < P.length:=by omega
   have HK0:=Hd (HIh.out P[0] (List.getElem_mem hm0))
   have HT0:=Hd (HI.out P[0] (List.getElem_mem hm0))
   obtain ⟨pb,po,hpa,hpl,c0⟩:=nats_at HPs.out hm0
   rw [Nat.add_zero] at c0
   subst hpa
   have hm1:1 < P.length:=by omega
   have HK1:=Hd (HIh.out P[1] (List.getElem_mem hm1))
   have HT1:=Hd (HI.out P[1] (List.getElem_mem hm1))
   obtain ⟨pb,po,hpa,hpl,c1⟩:=nats_at HPs.out hm1
   cases hpa
   have HV:=Hd (commonV_int HT0.out HT1.out)
   have HKi:=Hd (getD_map K P 0 ⟨#[]⟩ hm0)
   have HKj:=Hd (getD_map K P 1 ⟨#[]⟩ hm1)
   have HCp:=Hd (fun w' (h:Below wc.heap.size wc w')=>show w'.cell? ⟨pb,po,none⟩ = some (.int .i64 ((P[0]:Nat):Int)) ∧ w'.cell? ⟨pb,po + 1,none⟩ = some (.int .i64 ((P[1]:Nat):Int)) from by rw [h.cell hpl,h.cell hpl];exact ⟨c0,c1⟩)
   generalize P[0] = p0 at *
   generalize P[1] = p1 at *
   generalize hki:K p0 = ki at *
   generalize hkj:K p1 = kj at *
   clear hki hkj hpl HPs HIh HI HQ
   have HCm:=Hd (fun w' (h:Below wc.heap.size wc w')=>HV.out ▸ common_ok ki kj w' (HFx.out.below h).te)
   go_upto_region 30 with fail
   go_region_held3 (fun w'=>w'.cell? ⟨pb,po,none⟩ = some (.int .i64 (p0:Int)) ∧ w'.cell? ⟨pb,po + 1,none⟩ = some (.int .i64 (p1:Int)))
    ((refine HCp.out _ ?_;first | with_reducible exact (Below.refl _ _).drew | with_reducible exact (HB3).out | with_reducible exact (HB4).out | with_reducible exact (HB5).out))
    (first
      | (go_at_call_of 80 p0;(with_reducible refine (HK0.out _ (HFx.out.below (Below.refl _ _).drew)).mono ?_);rintro e w3 ⟨rfl,hb3⟩;have HB3:=Hd (show Below wc.heap.size wc w3 from (Below.refl _ _).drew.trans (hb3.mono (Nat.le_refl _)));clear hb3)
      | (go_at_call_of 80 p1;(with_reducible refine (HK1.out _ (HFx.out.below (Below.refl _ _).drew)).mono ?_);rintro e w3 ⟨rfl,hb3⟩;have HB3:=Hd (show Below wc.heap.size wc w3 from (Below.refl _ _).drew.trans (hb3.mono (Nat.le_refl _)));clear hb3)
      | (go_at_call_of 80 p0;(with_reducible refine (HK0.out _ (HFx.out.below HB3.out)).mono ?_);rintro e w4 ⟨rfl,hb4⟩;have HB4:=Hd (show Below wc.heap.size wc w4 from HB3.out.trans (hb4.mono HB3.out.size));clear hb4)
      | (go_at_call_of 80 p1;(with_reducible refine (HK1.out _ (HFx.out.below HB3.out)).mono ?_);rintro e w4 ⟨rfl,hb4⟩;have HB4:=Hd (show Below wc.heap.size wc w4 from HB3.out.trans (hb4.mono HB3.out.size));clear hb4)
      | (go_at_call 59;(with_reducible refine (HCm.out _ HB4.out).mono ?_);rintro e w5 ⟨rfl,hb5⟩;have HB5:=Hd (show Below wc.heap.size wc w5 from HB4.out.trans (hb5.mono HB4.out.size));clear hb5))
   all_goals
    go_wp2_with fail
    go_ret
    refine kindEnd (HBx.out.trans (HB5.out.mono HBx.out.size)) ?_
    refine Eq.trans ?_ HFin.out
    rw [HKi.out,HKj.out]
  ·have hlen:=h4 rfl
   clear h4 h7 h9
   by_cases m0:sx = mNot
   ·have t1:(sx.toList == [33]) = true:=by rw [m0];exact lit_eq rfl rfl
    have HFin:=Hd (show iText12 = kindN ⟨4,n,pp,ii,sx,ty⟩ (P.map K) from by rw [m0];rfl)
    clear m0
    go_wp2_with fail
    go_ret
    exact kindEnd HBx.out HFin.out
   ·have t1:(sx.toList == [33]) = false:=by rw [str_one];exact decide_eq_false m0
    have HFin:=Hd (show promI ((P.map K).getD 0 ⟨#[]⟩) = kindN ⟨4,n,pp,ii,sx,ty⟩ (P.map K) from by unfold kindN;simp [m0])
    clear m0
    have hm0:0 < P.length:=by omega
    have HK0:=Hd (HIh.out P[0] (List.getElem_mem hm0))
    have HT0:=Hd (HI.out P[0] (List.getElem_mem hm0))
    obtain ⟨pb,po,hpa,hpl,c0⟩:=nats_at HPs.out hm0
    rw [Nat.add_zero] at c0
    subst hpa
    have HV:=Hd (promoteV_int HT0.out)
    have HKi:=Hd (getD_map K P 0 ⟨#[]⟩ hm0)
    generalize P[0] = p0 at *
    generalize hki:K p0 = ki at *
    clear hki hpl HPs HIh HI HQ
    have HK:=Hd (HK0.out wc HFx.out)
    have HCm:=Hd (fun w' (h:Below wc.heap.size wc w')=>HV.out ▸ promote_ok ki w' (HFx.out.below h).te)
    go_wp2_with (first | (go_at_call 80;(with_reducible refine HK.out.mono ?_);rintro e w3 ⟨rfl,hb3⟩;have HB3:=Hd hb3;clear hb3) | (go_at_call 89;(with_reducible refine (HCm.out _ HB3.out).mono ?_);rintro e w5 ⟨rfl,hb5⟩;have HB5:=Hd (show Below wc.heap.size wc w5 from HB3.out.trans (hb5.mono HB3.out.size));clear hb5))
    go_ret
    refine kindEnd (HBx.out.trans (HB5.out.mono HBx.out.size)) ?_
    refine Eq.trans ?_ HFin.out
    rw [HKi.out]
  ·clear h4 h7 h9
   go_wp2_with fail
   go_ret
   exact kindEnd HBx.out rfl
  ·clear h4 h7 h9
   go_wp2_with fail
   go_ret
   exact kindEnd HBx.out rfl
end Go.Proofs.YtlcfejgjeljjdaaGreatDoor
