/- A statement laid out, of the kinds 25, 26: the program -/
import Derived.Test.YtkokdafkjjcgoaaGreatDoorMg27
namespace Go.Proofs.YtkokdafkjjcgoaaGreatDoor
open Go.RowKit
set_option maxRecDepth 100000
set_option maxHeartbeats 40000000 in
theorem stmt9_c {pb:Nat} {a b:Option Addr} {cap capb:Nat} {t:List Nd} {fr:List Nat} (hR:Right9 t fr) (k:Nat) (hk:k < t.length) (he:kindAt t k = 25 ∨ kindAt t k = 26)
 (HXp:Hid (∀ (due:Int),∀ p ∈ partsAt t fr k,exprK (kindAt t p) = true → Puts pb a t b fr 98 #[prV pb a t.length cap b fr.length capb,.int .i64 (p:Int),.int .i64 due] (partN t fr due p)))
 (HSp:Hid (∀ p ∈ partsAt t fr k,sK (kindAt t p) → Puts pb a t b fr 119 #[prV pb a t.length cap b fr.length capb,.int .i64 (p:Int)] (stmtN t fr p))) :
 Puts pb a t b fr 119 #[prV pb a t.length cap b fr.length capb,.int .i64 (k:Int)] (stmtN t fr k):=by
 intro W w hP hO hn
 have hlen:=parts_len9 hR hk
 obtain ⟨hx,hw⟩:=hR.nd hk
 have hPl:(partsAt t fr k).length ≤ 4096:=by rw [partsAt_is hx,partsE_length];have:=(hR.given.formed.node k _ hx).2.1.le;have:=hR.given.le;omega
 rw [stmtN_eq hR.given.formed] at hn ⊢
 obtain ⟨hlow,hex,hper,hst⟩:=hR.st hk
 rw [ndAt_kind t k] at he hex hper hst
 have HEx:=Hd (fun due i (hi:i < (partsAt t fr k).length) hc=>HXp.out due _ (List.getElem_mem hi) (hex i hi hc))
 have HPr:=Hd (fun i (hi:i < (partsAt t fr k).length) mark (hc:exprK (kindAt t (partsAt t fr k)[i]) = true ∨ kindAt t (partsAt t fr k)[i] = 33)=>perhaps_ok (f:=partN t fr 1) (cap:=cap) (capb:=capb) (pb:=pb) (a:=a) (b:=b) (fr:=fr) (Nat.lt_trans (hlow _ (List.getElem_mem hi)) hk) mark (fun h33=>HXp.out 1 _ (List.getElem_mem hi) (hc.resolve_right h33)))
 have HPe:=Hd (fun i hi mark hc hj=>HPr.out i hi mark (hper i hi hc hj))
 have HP20:=Hd (fun i hi mark hc=>HPr.out i hi mark (.inl (hex i hi (.inl hc))))
 have HSt:=Hd (fun i (hi:i < (partsAt t fr k).length) hc=>HSp.out _ (List.getElem_mem hi) (hst i hi hc))
 clear hlow hex hper hst HPr
 have HPt:=Hd (fun w1 (h:PrOk pb a t b fr w1)=>tparts_ok a cap t b capb fr w1 h.nds.sl h.nats.sl hR.given.le hR.given.formed k hk)
 have HNd:=Hd (fun w1 (h:PrOk pb a t b fr w1)=>nds_at h.nds.sl hk)
 have hxe:t[k] = ndAt t k:=(ndAt_is (List.getElem?_eq_getElem hk)).symm
 rw [hxe] at HNd
 have HS0:=Hd (fun w1 h=>PrSt.start (cap:=cap) (capb:=capb) (w1:=w1) hP hO h)
 generalize ndAt t k = x at *
 generalize partsAt t fr k = P at *
 clear hP hO hxe hx
 have HEk:=Hd he
 clear he HXp HSp
 go_enter Tryz.func119,Tryz.ntmps119
 go_upto_region 1 with fail
 generalize hg1:w.alloc _ = w1 at *
 have HS1:=Hd (HS0.out w1 rfl)
 have hbx:w.heap.size < w1.heap.size:=by rw [← hg1];simp
 clear hg1 HS0
 obtain ⟨y0,y1,y2⟩:=HS1.out.cells
 obtain ⟨ba,off,ha,hbl,x0,x1,x2,x3,x4,x5⟩:=HNd.out w1 HS1.out.ok
 subst ha
 have HCl:=Hd (fun w' (h:Below w1.heap.size w1 w')=>show w'.cell? ⟨w.heap.size,1,none⟩ = some (.slice (some ⟨ba,off,none⟩) t.length cap) ∧ w'.cell? ⟨w.heap.size,2,none⟩ = some (.slice b fr.length capb) ∧ w'.cell? ⟨ba,off + k * 6,none⟩ = some (.int .i64 x.kind) ∧ w'.cell? ⟨ba,off + k * 6 + 1,none⟩ = some (.int .i64 x.n) ∧ w'.cell? ⟨ba,off + k * 6 + 2,none⟩ = some (.int .i64 x.at_) ∧ w'.cell? ⟨ba,off + k * 6 + 3,none⟩ = some (.int .i64 x.int) ∧ w'.cell? ⟨ba,off + k * 6 + 4,none⟩ = some (.string x.text) ∧ w'.cell? ⟨ba,off + k * 6 + 5,none⟩ = some (.string x.type) from by
  rw [h.cell hbx,h.cell hbx,h.cell hbl,h.cell hbl,h.cell hbl,h.cell hbl,h.cell hbl,h.cell hbl];exact ⟨y1,y2,x0,x1,x2,x3,x4,x5⟩)
 have HP1:=Hd (HPt.out w1.drew (HS1.out.below (Below.refl _ _).drew).ok)
 have HP2:=Hd (HPt.out (w1.alloc (ndObj ⟨0,0,0,0,⟨#[]⟩,⟨#[]⟩⟩)).drew (HS1.out.below ((Below.refl _ _).alloc (Nat.le_refl _) _).drew).ok)
 have HZ:=Hd (nodeP_new w1 ⟨0,0,0,0,⟨#[]⟩,⟨#[]⟩⟩)
 simp only [ndObj] at HP2 HZ
 go_cut [4,5] (fun s4 s5 wx=>Hid (∃ q,s4 = .pointer (some ⟨q,0,none⟩) ∧ w1.heap.size ≤ q ∧ NodeP wx q x ∧ NatRow wx w1.heap.size s5 P ∧ Below w1.heap.size w1 wx))
 case first=>
  go_region_held3 (fun w'=>w'.cell? ⟨w.heap.size,1,none⟩ = some (.slice (some ⟨ba,off,none⟩) t.length cap) ∧ w'.cell? ⟨w.heap.size,2,none⟩ = some (.slice b fr.length capb) ∧ w'.cell? ⟨ba,off + k * 6,none⟩ = some (.int .i64 x.kind) ∧ w'.cell? ⟨ba,off + k * 6 + 1,none⟩ = some (.int .i64 x.n) ∧ w'.cell? ⟨ba,off + k * 6 + 2,none⟩ = some (.int .i64 x.at_) ∧ w'.cell? ⟨ba,off + k * 6 + 3,none⟩ = some (.int .i64 x.int) ∧ w'.cell? ⟨ba,off + k * 6 + 4,none⟩ = some (.string x.text) ∧ w'.cell? ⟨ba,off + k * 6 + 5,none⟩ = some (.string x.type))
   ((refine HCl.out _ ?_;first | with_reducible exact (Below.refl _ _).drew | with_reducible exact ((Below.refl _ _).alloc (Nat.le_refl _) _).drew | with_reducible exact (HB2).out | (have hq:=HB2;with_reducible exact hq.out.alloc hq.out.size _) | (have hq:=HB2;with_reducible exact below_set6P hq.out (Nat.le_refl _) x)))
   (first
     | (go_at_call 42;(with_reducible refine HP1.out.mono ?_);rintro e w2 ⟨⟨v2,rfl,hrow⟩,hb2⟩;have HB2:=Hd (show Below w1.heap.size w1 w2 from (Below.refl _ _).drew.trans (hb2.mono (Nat.le_refl _)));have HRow:=Hd hrow;clear hb2 hrow)
     | (go_at_call 42;(with_reducible refine HP2.out.mono ?_);rintro e w2 ⟨⟨v2,rfl,hrow⟩,hb2⟩;have HB2:=Hd (show Below w1.heap.size w1 w2 from ((Below.refl _ _).alloc (Nat.le_refl _) _).drew.trans (hb2.mono (by simp)));have hqn:=(show NodeP w2 w1.heap.size _ from (HZ.out.below (Below.refl _ _).drew).below hb2);have HQ:=Hd hqn;have HRw:=Hd hrow;obtain ⟨⟨q0,q1,q2,q3,q4,q5⟩,qf⟩:=six_block hqn;have qf0:=qf 0;have qf1:=qf 1;have qf2:=qf 2;have qf3:=qf 3;have qf4:=qf 4;have qf5:=qf 5;clear hb2 qf hqn hrow))
  all_goals go_wp2_with fail
  all_goals go_meet
  all_goals refine Hd ⟨_,rfl,?_,?_,?_,?_⟩
  ·exact HB2.out.size
  ·exact nodeP_new _ x
  ·exact HRow.out.belowed (ba1 _ _)
  ·exact HB2.out.alloc HB2.out.size _
  ·exact Nat.le_refl _
  ·exact HQ.out.set x
  ·exact natRow_le (natRow_set6 HRw.out (fun e=>by have:=HRw.out;unfold NatRow at this;have:=(this.lt _ e).1;simp at this;omega) x) (by simp)
  ·exact below_set6P HB2.out (Nat.le_refl _) x
 case rest=>
 clear x0 x1 x2 x3 x4 x5 HCl HP1 HP2 HZ HPt HNd y0 y1 y2
 obtain ⟨q,rfl,hq,hnd,hrow,hbx2⟩:=hcut.out
 obtain ⟨pa,pc,rfl,hpc,hN,hf⟩:=natRow_open hrow
 have HX:=Hd (ExprIn.mk' HS1.out hbx2 hnd hq hN hf hpc)
 clear hcut hq hnd hrow hbx2 hpc hN hf HS1
 have HC:=Hd HX.out.st
 obtain ⟨z0,z1,z2⟩:=HC.out.cells
 obtain ⟨⟨n0,n1,n2,n3,n4,n5⟩,_⟩:=six_block (HX.out.node _ (KeepP.refl _ _))
 obtain ⟨kk,n,p,i,s,y⟩:=x
 have he:=HEk.out
 clear HEk
 simp only at he hlen n0 n1 n2 n3 n4 n5
 rcases he with rfl | rfl
 ·-- 25
  rw [show arityN 25 = (2,2) from by decide] at hlen
  simp only at hlen
  have hl0:0 < P.length:=by omega
  have hl1:1 < P.length:=by omega
  have hm1:(1:Int) < (P.length:Int):=by omega
  have hB:stmtB t P (partN t fr) (stmtN t fr) ⟨25,n,p,i,s,y⟩ = tkK ⟨#[100,111]⟩ :: (atF P (stmtN t fr) 0 ++ (askF P (partN t fr 1) tkW 1 ++ [tkM ⟨#[59]⟩])):=rfl
  rw [askF_is hl1,atF_is hl0] at hB
  have HQ:=Hd (asked_ok tkW (HEx.out 1 1 hl1 (.inr (.inr (.inr (.inr ⟨rfl,rfl⟩))))))
  have HS1:=Hd (HSt.out 0 hl0 (.inr (.inr (.inr (.inl ⟨rfl,rfl⟩)))))
  unfold tkW at HQ hB
  rw [hB] at hn
  generalize partN t fr 1 P[1] = A at *
  generalize stmtN t fr P[0] = R at *
  simp only [List.length_cons,List.length_append,List.length_nil] at hn
  go_upto_region 38 with (go_at_call 96;(refine (HC.out.put1 ⟨#[100,111]⟩ (by first | omega | (simp;omega))).mono ?_);rintro e w4 ⟨rfl,hs⟩;have HD1:=Hd hs;clear hs)
  obtain ⟨z0,z1,z2⟩:=HD1.out.cells
  obtain ⟨b5,o5,ha,c0⟩:=nats_atP (HX.out.sl w4 HD1.out.keep).sl hl0
  subst ha
  rw [Nat.add_zero] at c0
  go_still_tail 4,(by kernel_rfl)
  change wpList _ _ _ _ _ w4.drew
  have HE1:=Hd (HD1.out.below ((Below.refl _ w4).drew))
  clear c0
  go_upto_region 39 with (go_at_call 119;(refine (HE1.out.call HS1.out (by first | omega | (simp;omega))).mono ?_);rintro e w5 ⟨rfl,hs⟩;have HD2:=Hd hs;clear hs)
  obtain ⟨z0,z1,z2⟩:=HD2.out.cells
  obtain ⟨b6,o6,ha,c1⟩:=nats_atP (HX.out.sl w5 HD2.out.keep).sl hl1
  simp only [Option.some.injEq,Addr.mk.injEq] at ha
  obtain ⟨rfl,rfl,_⟩:=ha
  go_still_tail 4,(by kernel_rfl)
  change wpList _ _ _ _ _ w5.drew
  have HE2:=Hd (HD2.out.below ((Below.refl _ w5).drew))
  clear c1
  go_upto_region 40 with (go_at_call 156;(refine (HE2.out.call HQ.out (by first | omega | (simp;omega))).mono ?_);rintro e w6 ⟨rfl,hs⟩;have HD3:=Hd hs;clear hs)
  obtain ⟨z0,z1,z2⟩:=HD3.out.cells
  go_wp2_with (go_at_call 96;(refine (HD3.out.put1 ⟨#[59]⟩ (by first | omega | (simp;omega))).mono ?_);rintro e w7 ⟨rfl,hs⟩;have HD4:=Hd hs;clear hs)
  go_end0
  rw [hB]
  simpa [word_M,word_N,word_K] using HD4.out.end_from HX.out.keep
 ·-- 26
  rw [show arityN 26 = (4,4) from by decide] at hlen
  simp only at hlen
  have hl0:0 < P.length:=by omega
  have hl1:1 < P.length:=by omega
  have hl2:2 < P.length:=by omega
  have hl3:3 < P.length:=by omega
  have hm1:(1:Int) < (P.length:Int):=by omega
  have hm2:(2:Int) < (P.length:Int):=by omega
  have hm3:(3:Int) < (P.length:Int):=by omega
  have hB:stmtB t P (partN t fr) (stmtN t fr) ⟨26,n,p,i,s,y⟩ = tkK ⟨#[102,111,114]⟩ :: tkM ⟨#[40]⟩ :: (atF P (stmtN t fr) 0 ++ (atF P (perF t (partN t fr 1)) 1 ++ tkM ⟨#[59]⟩ :: (atF P (perF t (partN t fr 1)) 2 ++ tkM ⟨#[41]⟩ :: atF P (stmtN t fr) 3))):=rfl
  rw [atF_is hl0,atF_is hl1,atF_is hl2,atF_is hl3] at hB
  have HS1:=Hd (HSt.out 0 hl0 (.inr (.inr (.inr (.inr ⟨rfl,.inl rfl⟩)))))
  have HS2:=Hd (HSt.out 3 hl3 (.inr (.inr (.inr (.inr ⟨rfl,.inr rfl⟩)))))
  have HQ:=Hd (HPe.out 1 hl1 ⟨#[59]⟩ rfl (.inl rfl))
  have HQ2:=Hd (HPe.out 2 hl2 ⟨#[41]⟩ rfl (.inr rfl))
  rw [hB] at hn
  simp only [List.length_cons,List.length_append] at hn
  generalize perF t (partN t fr 1) P[1] = A at *
  generalize perF t (partN t fr 1) P[2] = A2 at *
  generalize stmtN t fr P[0] = R at *
  generalize stmtN t fr P[3] = R2 at *
  go_upto_region 43 with (go_at_call 96;(refine (HC.out.put2 ⟨#[102,111,114]⟩ ⟨#[40]⟩ (by first | omega | (simp;omega))).mono ?_);rintro e w4 ⟨rfl,hs⟩;have HD1:=Hd hs;clear hs)
  obtain ⟨z0,z1,z2⟩:=HD1.out.cells
  obtain ⟨b5,o5,ha,c0⟩:=nats_atP (HX.out.sl w4 HD1.out.keep).sl hl0
  subst ha
  rw [Nat.add_zero] at c0
  go_still_tail 4,(by kernel_rfl)
  change wpList _ _ _ _ _ w4.drew
  have HE1:=Hd (HD1.out.below ((Below.refl _ w4).drew))
  clear c0
  go_upto_region 44 with (go_at_call 119;(refine (HE1.out.call HS1.out (by first | omega | (simp;omega))).mono ?_);rintro e w5 ⟨rfl,hs⟩;have HD2:=Hd hs;clear hs)
  obtain ⟨z0,z1,z2⟩:=HD2.out.cells
  obtain ⟨b6,o6,ha,c1⟩:=nats_atP (HX.out.sl w5 HD2.out.keep).sl hl1
  simp only [Option.some.injEq,Addr.mk.injEq] at ha
  obtain ⟨rfl,rfl,_⟩:=ha
  go_still_tail 4,(by kernel_rfl)
  change wpList _ _ _ _ _ w5.drew
  have HE2:=Hd (HD2.out.below ((Below.refl _ w5).drew))
  clear c1
  go_upto_region 45 with (go_at_call 155;(refine (HE2.out.call HQ.out (by first | omega | (simp;omega))).mono ?_);rintro e w6 ⟨rfl,hs⟩;have HD3:=Hd hs;clear hs)
  obtain ⟨z0,z1,z2⟩:=HD3.out.cells
  obtain ⟨b6,o6,ha,c2⟩:=nats_atP (HX.out.sl w6 HD3.out.keep).sl hl2
  simp only [Option.some.injEq,Addr.mk.injEq] at ha
  obtain ⟨rfl,rfl,_⟩:=ha
  go_still_tail 4,(by kernel_rfl)
  change wpList _ _ _ _ _ w6.drew
  have HE3:=Hd (HD3.out.below ((Below.refl _ w6).drew))
  clear c2
  go_upto_region 46 with (go_at_call 155;(refine (HE3.out.call HQ2.out (by first | omega | (simp;omega))).mono ?_);rintro e w7 ⟨rfl,hs⟩;have HD4:=Hd hs;clear hs)
  obtain ⟨z0,z1,z2⟩:=HD4.out.cells
  obtain ⟨b6,o6,ha,c3⟩:=nats_atP (HX.out.sl w7 HD4.out.keep).sl hl3
  simp only [Option.some.injEq,Addr.mk.injEq] at ha
  obtain ⟨rfl,rfl,_⟩:=ha
  go_still_tail 4,(by kernel_rfl)
  change wpList _ _ _ _ _ w7.drew
  have HE4:=Hd (HD4.out.below ((Below.refl _ w7).drew))
  clear c3
  go_wp2_with (go_at_call 119;(refine (HE4.out.call HS2.out (by first | omega | (simp;omega))).mono ?_);rintro e w8 ⟨rfl,hs⟩;have HD5:=Hd hs;clear hs)
  go_end0
  rw [hB]
  simpa [word_M,word_N,word_K] using HD5.out.end_from HX.out.keep
set_option maxHeartbeats 40000000 in
theorem stmt9_d {pb:Nat} {a b:Option Addr} {cap capb:Nat} {t:List Nd} {fr:List Nat} (hR:Right9 t fr) (k:Nat) (hk:k < t.length) (he:kindAt t k = 28 ∨ kindAt t k = 29 ∨ kindAt t k = 30 ∨ kindAt t k = 31 ∨ kindAt t k = 32)
 (HXp:Hid (∀ (due:Int),∀ p ∈ partsAt t fr k,exprK (kindAt t p) = true → Puts pb a t b fr 98 #[prV pb a t.length cap b fr.length capb,.int .i64 (p:Int),.int .i64 due] (partN t fr due p)))
 (HSp:Hid (∀ p ∈ partsAt t fr k,sK (kindAt t p) → Puts pb a t b fr 119 #[prV pb a t.length cap b fr.length capb,.int .i64 (p:Int)] (stmtN t fr p))) :
 Puts pb a t b fr 119 #[prV pb a t.length cap b fr.length capb,.int .i64 (k:Int)] (stmtN t fr k):=by
 intro W w hP hO hn
 have hlen:=parts_len9 hR hk
 obtain ⟨hx,hw⟩:=hR.nd hk
 have hPl:(partsAt t fr k).length ≤ 4096:=by rw [partsAt_is hx,partsE_length];have:=(hR.given.formed.node k _ hx).2.1.le;have:=hR.given.le;omega
 rw [stmtN_eq hR.given.formed] at hn ⊢
 obtain ⟨hlow,hex,hper,hst⟩:=hR.st hk
 rw [ndAt_kind t k] at he hex hper hst
 have HEx:=Hd (fun due i (hi:i < (partsAt t fr k).length) hc=>HXp.out due _ (List.getElem_mem hi) (hex i hi hc))
 have HPr:=Hd (fun i (hi:i < (partsAt t fr k).length) mark (hc:exprK (kindAt t (partsAt t fr k)[i]) = true ∨ kindAt t (partsAt t fr k)[i] = 33)=>perhaps_ok (f:=partN t fr 1) (cap:=cap) (capb:=capb) (pb:=pb) (a:=a) (b:=b) (fr:=fr) (Nat.lt_trans (hlow _ (List.getElem_mem hi)) hk) mark (fun h33=>HXp.out 1 _ (List.getElem_mem hi) (hc.resolve_right h33)))
 have HPe:=Hd (fun i hi mark hc hj=>HPr.out i hi mark (hper i hi hc hj))
 have HP20:=Hd (fun i hi mark hc=>HPr.out i hi mark (.inl (hex i hi (.inl hc))))
 have HSt:=Hd (fun i (hi:i < (partsAt t fr k).length) hc=>HSp.out _ (List.getElem_mem hi) (hst i hi hc))
 clear hlow hex hper hst HPr
 have HPt:=Hd (fun w1 (h:PrOk pb a t b fr w1)=>tparts_ok a cap t b capb fr w1 h.nds.sl h.nats.sl hR.given.le hR.given.formed k hk)
 have HNd:=Hd (fun w1 (h:PrOk pb a t b fr w1)=>nds_at h.nds.sl hk)
 have hxe:t[k] = ndAt t k:=(ndAt_is (List.getElem?_eq_getElem hk)).symm
 rw [hxe] at HNd
 have HS0:=Hd (fun w1 h=>PrSt.start (cap:=cap) (capb:=capb) (w1:=w1) hP hO h)
 generalize ndAt t k = x at *
 generalize partsAt t fr k = P at *
 clear hP hO hxe hx
 have HEk:=Hd he
 clear he HXp HSp
 go_enter Tryz.func119,Tryz.ntmps119
 go_upto_region 1 with fail
 generalize hg1:w.alloc _ = w1 at *
 have HS1:=Hd (HS0.out w1 rfl)
 have hbx:w.heap.size < w1.heap.size:=by rw [← hg1];simp
 clear hg1 HS0
 obtain ⟨y0,y1,y2⟩:=HS1.out.cells
 obtain ⟨ba,off,ha,hbl,x0,x1,x2,x3,x4,x5⟩:=HNd.out w1 HS1.out.ok
 subst ha
 have HCl:=Hd (fun w' (h:Below w1.heap.size w1 w')=>show w'.cell? ⟨w.heap.size,1,none⟩ = some (.slice (some ⟨ba,off,none⟩) t.length cap) ∧ w'.cell? ⟨w.heap.size,2,none⟩ = some (.slice b fr.length capb) ∧ w'.cell? ⟨ba,off + k * 6,none⟩ = some (.int .i64 x.kind) ∧ w'.cell? ⟨ba,off + k * 6 + 1,none⟩ = some (.int .i64 x.n) ∧ w'.cell? ⟨ba,off + k * 6 + 2,none⟩ = some (.int .i64 x.at_) ∧ w'.cell? ⟨ba,off + k * 6 + 3,none⟩ = some (.int .i64 x.int) ∧ w'.cell? ⟨ba,off + k * 6 + 4,none⟩ = some (.string x.text) ∧ w'.cell? ⟨ba,off + k * 6 + 5,none⟩ = some (.string x.type) from by
  rw [h.cell hbx,h.cell hbx,h.cell hbl,h.cell hbl,h.cell hbl,h.cell hbl,h.cell hbl,h.cell hbl];exact ⟨y1,y2,x0,x1,x2,x3,x4,x5⟩)
 have HP1:=Hd (HPt.out w1.drew (HS1.out.below (Below.refl _ _).drew).ok)
 have HP2:=Hd (HPt.out (w1.alloc (ndObj ⟨0,0,0,0,⟨#[]⟩,⟨#[]⟩⟩)).drew (HS1.out.below ((Below.refl _ _).alloc (Nat.le_refl _) _).drew).ok)
 have HZ:=Hd (nodeP_new w1 ⟨0,0,0,0,⟨#[]⟩,⟨#[]⟩⟩)
 simp only [ndObj] at HP2 HZ
 go_cut [4,5] (fun s4 s5 wx=>Hid (∃ q,s4 = .pointer (some ⟨q,0,none⟩) ∧ w1.heap.size ≤ q ∧ NodeP wx q x ∧ NatRow wx w1.heap.size s5 P ∧ Below w1.heap.size w1 wx))
 case first=>
  go_region_held3 (fun w'=>w'.cell? ⟨w.heap.size,1,none⟩ = some (.slice (some ⟨ba,off,none⟩) t.length cap) ∧ w'.cell? ⟨w.heap.size,2,none⟩ = some (.slice b fr.length capb) ∧ w'.cell? ⟨ba,off + k * 6,none⟩ = some (.int .i64 x.kind) ∧ w'.cell? ⟨ba,off + k * 6 + 1,none⟩ = some (.int .i64 x.n) ∧ w'.cell? ⟨ba,off + k * 6 + 2,none⟩ = some (.int .i64 x.at_) ∧ w'.cell? ⟨ba,off + k * 6 + 3,none⟩ = some (.int .i64 x.int) ∧ w'.cell? ⟨ba,off + k * 6 + 4,none⟩ = some (.string x.text) ∧ w'.cell? ⟨ba,off + k * 6 + 5,none⟩ = some (.string x.type))
   ((refine HCl.out _ ?_;first | with_reducible exact (Below.refl _ _).drew | with_reducible exact ((Below.refl _ _).alloc (Nat.le_refl _) _).drew | with_reducible exact (HB2).out | (have hq:=HB2;with_reducible exact hq.out.alloc hq.out.size _) | (have hq:=HB2;with_reducible exact below_set6P hq.out (Nat.le_refl _) x)))
   (first
     | (go_at_call 42;(with_reducible refine HP1.out.mono ?_);rintro e w2 ⟨⟨v2,rfl,hrow⟩,hb2⟩;have HB2:=Hd (show Below w1.heap.size w1 w2 from (Below.refl _ _).drew.trans (hb2.mono (Nat.le_refl _)));have HRow:=Hd hrow;clear hb2 hrow)
     | (go_at_call 42;(with_reducible refine HP2.out.mono ?_);rintro e w2 ⟨⟨v2,rfl,hrow⟩,hb2⟩;have HB2:=Hd (show Below w1.heap.size w1 w2 from ((Below.refl _ _).alloc (Nat.le_refl _) _).drew.trans (hb2.mono (by simp)));have hqn:=(show NodeP w2 w1.heap.size _ from (HZ.out.below (Below.refl _ _).drew).below hb2);have HQ:=Hd hqn;have HRw:=Hd hrow;obtain ⟨⟨q0,q1,q2,q3,q4,q5⟩,qf⟩:=six_block hqn;have qf0:=qf 0;have qf1:=qf 1;have qf2:=qf 2;have qf3:=qf 3;have qf4:=qf 4;have qf5:=qf 5;clear hb2 qf hqn hrow))
  all_goals go_wp2_with fail
  all_goals go_meet
  all_goals refine Hd ⟨_,rfl,?_,?_,?_,?_⟩
  ·exact HB2.out.size
  ·exact nodeP_new _ x
  ·exact HRow.out.belowed (ba1 _ _)
  ·exact HB2.out.alloc HB2.out.size _
  ·exact Nat.le_refl _
  ·exact HQ.out.set x
  ·exact natRow_le (natRow_set6 HRw.out (fun e=>by have:=HRw.out;unfold NatRow at this;have:=(this.lt _ e).1;simp at this;omega) x) (by simp)
  ·exact below_set6P HB2.out (Nat.le_refl _) x
 case rest=>
 clear x0 x1 x2 x3 x4 x5 HCl HP1 HP2 HZ HPt HNd y0 y1 y2
 obtain ⟨q,rfl,hq,hnd,hrow,hbx2⟩:=hcut.out
 obtain ⟨pa,pc,rfl,hpc,hN,hf⟩:=natRow_open hrow
 have HX:=Hd (ExprIn.mk' HS1.out hbx2 hnd hq hN hf hpc)
 clear hcut hq hnd hrow hbx2 hpc hN hf HS1
 have HC:=Hd HX.out.st
 obtain ⟨z0,z1,z2⟩:=HC.out.cells
 obtain ⟨⟨n0,n1,n2,n3,n4,n5⟩,_⟩:=six_block (HX.out.node _ (KeepP.refl _ _))
 obtain ⟨kk,n,p,i,s,y⟩:=x
 have he:=HEk.out
 clear HEk
 simp only at he hlen n0 n1 n2 n3 n4 n5
 rcases he with rfl | rfl | rfl | rfl | rfl
 ·-- 28
  rw [show arityN 28 = (2,2) from by decide] at hlen
  simp only at hlen
  have HQ:=Hd (label_ok (la:=pa) (lc:=pc) (x:=⟨28,n,p,i,s,y⟩) (f:=partN t fr) (e:=stmtN t fr) (by simp) hPl (fun h=>by simp only at h;omega) (fun h=>by simp only at h;omega) (fun due i hi h=>HEx.out due i hi (.inr (.inr (.inr (.inl ⟨.inr (.inr (.inr rfl)),(by rcases h with ⟨_,h⟩ | h;exact h;simp at h)⟩))))) (fun i hi h=>HSt.out i hi (.inr (.inr (.inl ⟨.inr (.inr (.inr rfl)),(by rcases h with ⟨_,rfl⟩ | h;decide;simp at h)⟩)))))
  generalize stmtB t P (partN t fr) (stmtN t fr) ⟨28,n,p,i,s,y⟩ = R at *
  unfold ndV at HQ
  simp only at HQ
  go_wp2_with (go_at_call 157;(refine (HC.out.callL HQ.out (HX.out.sl _ HC.out.keep) (by omega)).mono ?_);rintro e w4 ⟨rfl,hs⟩;have HD1:=Hd hs;clear hs)
  go_end0
  exact HD1.out.end_from HX.out.keep
 ·-- 29
  rw [show arityN 29 = (1,1) from by decide] at hlen
  simp only at hlen
  have HQ:=Hd (label_ok (la:=pa) (lc:=pc) (x:=⟨29,n,p,i,s,y⟩) (f:=partN t fr) (e:=stmtN t fr) (by simp) hPl (fun h=>by simp only at h;omega) (fun h=>by simp only at h;omega) (fun due i hi h=>HEx.out due i hi (by simp at h)) (fun i hi h=>HSt.out i hi (.inr (.inl rfl))))
  generalize stmtB t P (partN t fr) (stmtN t fr) ⟨29,n,p,i,s,y⟩ = R at *
  unfold ndV at HQ
  simp only at HQ
  go_wp2_with (go_at_call 157;(refine (HC.out.callL HQ.out (HX.out.sl _ HC.out.keep) (by omega)).mono ?_);rintro e w4 ⟨rfl,hs⟩;have HD1:=Hd hs;clear hs)
  go_end0
  exact HD1.out.end_from HX.out.keep
 ·-- 30
  rw [show arityN 30 = (0,0) from by decide] at hlen
  simp only at hlen
  have HQ:=Hd (label_ok (la:=pa) (lc:=pc) (x:=⟨30,n,p,i,s,y⟩) (f:=partN t fr) (e:=stmtN t fr) (by simp) hPl (fun h=>by simp only at h;omega) (fun h=>by simp only at h;omega) (fun due i hi h=>HEx.out due i hi (by simp at h)) (fun i hi h=>HSt.out i hi (by simp at h)))
  generalize stmtB t P (partN t fr) (stmtN t fr) ⟨30,n,p,i,s,y⟩ = R at *
  unfold ndV at HQ
  simp only at HQ
  go_wp2_with (go_at_call 157;(refine (HC.out.callL HQ.out (HX.out.sl _ HC.out.keep) (by omega)).mono ?_);rintro e w4 ⟨rfl,hs⟩;have HD1:=Hd hs;clear hs)
  go_end0
  exact HD1.out.end_from HX.out.keep
 ·-- 31
  rw [show arityN 31 = (0,0) from by decide] at hlen
  simp only at hlen
  have HQ:=Hd (label_ok (la:=pa) (lc:=pc) (x:=⟨31,n,p,i,s,y⟩) (f:=partN t fr) (e:=stmtN t fr) (by simp) hPl (fun h=>by simp only at h;omega) (fun h=>by simp only at h;omega) (fun due i hi h=>HEx.out due i hi (by simp at h)) (fun i hi h=>HSt.out i hi (by simp at h)))
  generalize stmtB t P (partN t fr) (stmtN t fr) ⟨31,n,p,i,s,y⟩ = R at *
  unfold ndV at HQ
  simp only at HQ
  go_wp2_with (go_at_call 157;(refine (HC.out.callL HQ.out (HX.out.sl _ HC.out.keep) (by omega)).mono ?_);rintro e w4 ⟨rfl,hs⟩;have HD1:=Hd hs;clear hs)
  go_end0
  exact HD1.out.end_from HX.out.keep
 ·-- 32
  rw [show arityN 32 = (0,1) from by decide] at hlen
  simp only at hlen
  have HQ:=Hd (label_ok (la:=pa) (lc:=pc) (x:=⟨32,n,p,i,s,y⟩) (f:=partN t fr) (e:=stmtN t fr) (by simp) hPl (fun h=>by simp only at h;omega) (fun h=>by simp only at h;omega) (fun due i hi h=>HEx.out due i hi (.inr (.inl rfl))) (fun i hi h=>HSt.out i hi (by simp at h)))
  generalize stmtB t P (partN t fr) (stmtN t fr) ⟨32,n,p,i,s,y⟩ = R at *
  unfold ndV at HQ
  simp only at HQ
  go_wp2_with (go_at_call 157;(refine (HC.out.callL HQ.out (HX.out.sl _ HC.out.keep) (by omega)).mono ?_);rintro e w4 ⟨rfl,hs⟩;have HD1:=Hd hs;clear hs)
  go_end0
  exact HD1.out.end_from HX.out.keep
set_option maxHeartbeats 40000000 in
theorem expr9_a {pb:Nat} {a b:Option Addr} {cap capb:Nat} {t:List Nd} {fr:List Nat} (hR:Right9 t fr) (k:Nat) (hk:k < t.length) (he:kindAt t k = 1 ∨ kindAt t k = 2 ∨ kindAt t k = 3 ∨ kindAt t k = 17)
 (HA:Hid (∀ (due:Int),∀ p ∈ partsAt t fr k,Puts pb a t b fr 98 #[prV pb a t.length cap b fr.length capb,.int .i64 (p:Int),.int .i64 due] (partN t fr due p))) :
 Puts pb a t b fr 53 #[prV pb a t.length cap b fr.length capb,.int .i64 (k:Int)] (exprN t fr k):=by
 intro W w hP hO hn
 have hlen:=parts_len9 hR hk
 obtain ⟨hx,hw⟩:=hR.nd hk
 have hPl:(partsAt t fr k).length ≤ 4096:=by rw [partsAt_is hx,partsE_length];have:=(hR.given.formed.node k _ hx).2.1.le;have:=hR.given.le;omega
 rw [exprN_eq hR.given.formed] at hn ⊢
 rw [ndAt_kind] at he
 have HPt:=Hd (fun w1 (h:PrOk pb a t b fr w1)=>tparts_ok a cap t b capb fr w1 h.nds.sl h.nats.sl hR.given.le hR.given.formed k hk)
 have HNd:=Hd (fun w1 (h:PrOk pb a t b fr w1)=>nds_at h.nds.sl hk)
 have hxe:t[k] = ndAt t k:=(ndAt_is (List.getElem?_eq_getElem hk)).symm
 rw [hxe] at HNd
 have HS0:=Hd (fun w1 h=>PrSt.start (cap:=cap) (capb:=capb) (w1:=w1) hP hO h)
 generalize ndAt t k = x at *
 generalize partsAt t fr k = P at *
 clear hP hO hxe hx
 have HEk:=Hd he
 clear he
 go_enter Tryz.func53,Tryz.ntmps53
 go_upto_region 1 with fail
 generalize hg1:w.alloc _ = w1 at *
 have HS1:=Hd (HS0.out w1 rfl)
 have hbx:w.heap.size < w1.heap.size:=by rw [← hg1];simp
 clear hg1 HS0
 obtain ⟨y0,y1,y2⟩:=HS1.out.cells
 obtain ⟨ba,off,ha,hbl,x0,x1,x2,x3,x4,x5⟩:=HNd.out w1 HS1.out.ok
 subst ha
 have HCl:=Hd (fun w' (h:Below w1.heap.size w1 w')=>show w'.cell? ⟨w.heap.size,1,none⟩ = some (.slice (some ⟨ba,off,none⟩) t.length cap) ∧ w'.cell? ⟨w.heap.size,2,none⟩ = some (.slice b fr.length capb) ∧ w'.cell? ⟨ba,off + k * 6,none⟩ = some (.int .i64 x.kind) ∧ w'.cell? ⟨ba,off + k * 6 + 1,none⟩ = some (.int .i64 x.n) ∧ w'.cell? ⟨ba,off + k * 6 + 2,none⟩ = some (.int .i64 x.at_) ∧ w'.cell? ⟨ba,off + k * 6 + 3,none⟩ = some (.int .i64 x.int) ∧ w'.cell? ⟨ba,off + k * 6 + 4,none⟩ = some (.string x.text) ∧ w'.cell? ⟨ba,off + k * 6 + 5,none⟩ = some (.string x.type) from by
  rw [h.cell hbx,h.cell hbx,h.cell hbl,h.cell hbl,h.cell hbl,h.cell hbl,h.cell hbl,h.cell hbl];exact ⟨y1,y2,x0,x1,x2,x3,x4,x5⟩)
 have HP1:=Hd (HPt.out w1.drew (HS1.out.below (Below.refl _ _).drew).ok)
 have HP2:=Hd (HPt.out (w1.alloc (ndObj ⟨0,0,0,0,⟨#[]⟩,⟨#[]⟩⟩)).drew (HS1.out.below ((Below.refl _ _).alloc (Nat.le_refl _) _).drew).ok)
 have HZ:=Hd (nodeP_new w1 ⟨0,0,0,0,⟨#[]⟩,⟨#[]⟩⟩)
 simp only [ndObj] at HP2 HZ
 go_cut [4,5] (fun s4 s5 wx=>Hid (∃ q,s4 = .pointer (some ⟨q,0,none⟩) ∧ w1.heap.size ≤ q ∧ NodeP wx q x ∧ NatRow wx w1.heap.size s5 P ∧ Below w1.heap.size w1 wx))
 case first=>
  go_region_held3 (fun w'=>w'.cell? ⟨w.heap.size,1,none⟩ = some (.slice (some ⟨ba,off,none⟩) t.length cap) ∧ w'.cell? ⟨w.heap.size,2,none⟩ = some (.slice b fr.length capb) ∧ w'.cell? ⟨ba,off + k * 6,none⟩ = some (.int .i64 x.kind) ∧ w'.cell? ⟨ba,off + k * 6 + 1,none⟩ = some (.int .i64 x.n) ∧ w'.cell? ⟨ba,off + k * 6 + 2,none⟩ = some (.int .i64 x.at_) ∧ w'.cell? ⟨ba,off + k * 6 + 3,none⟩ = some (.int .i64 x.int) ∧ w'.cell? ⟨ba,off + k * 6 + 4,none⟩ = some (.string x.text) ∧ w'.cell? ⟨ba,off + k * 6 + 5,none⟩ = some (.string x.type))
   ((refine HCl.out _ ?_;first | with_reducible exact (Below.refl _ _).drew | with_reducible exact ((Below.refl _ _).alloc (Nat.le_refl _) _).drew | with_reducible exact (HB2).out | (have hq:=HB2;with_reducible exact hq.out.alloc hq.out.size _) | (have hq:=HB2;with_reducible exact below_set6P hq.out (Nat.le_refl _) x)))
   (first
     | (go_at_call 42;(with_reducible refine HP1.out.mono ?_);rintro e w2 ⟨⟨v2,rfl,hrow⟩,hb2⟩;have HB2:=Hd (show Below w1.heap.size w1 w2 from (Below.refl _ _).drew.trans (hb2.mono (Nat.le_refl _)));have HRow:=Hd hrow;clear hb2 hrow)
     | (go_at_call 42;(with_reducible refine HP2.out.mono ?_);rintro e w2 ⟨⟨v2,rfl,hrow⟩,hb2⟩;have HB2:=Hd (show Below w1.heap.size w1 w2 from ((Below.refl _ _).alloc (Nat.le_refl _) _).drew.trans (hb2.mono (by simp)));have hqn:=(show NodeP w2 w1.heap.size _ from (HZ.out.below (Below.refl _ _).drew).below hb2);have HQ:=Hd hqn;have HRw:=Hd hrow;obtain ⟨⟨q0,q1,q2,q3,q4,q5⟩,qf⟩:=six_block hqn;have qf0:=qf 0;have qf1:=qf 1;have qf2:=qf 2;have qf3:=qf 3;have qf4:=qf 4;have qf5:=qf 5;clear hb2 qf hqn hrow))
  all_goals go_wp2_with fail
  all_goals go_meet
  all_goals refine Hd ⟨_,rfl,?_,?_,?_,?_⟩
  ·exact HB2.out.size
  ·exact nodeP_new _ x
  ·exact HRow.out.belowed (ba1 _ _)
  ·exact HB2.out.alloc HB2.out.size _
  ·exact Nat.le_refl _
  ·exact HQ.out.set x
  ·exact natRow_le (natRow_set6 HRw.out (fun e=>by have:=HRw.out;unfold NatRow at this;have:=(this.lt _ e).1;simp at this;omega) x) (by simp)
  ·exact below_set6P HB2.out (Nat.le_refl _) x
 case rest=>
 clear x0 x1 x2 x3 x4 x5 HCl HP1 HP2 HZ HPt HNd y0 y1 y2
 obtain ⟨q,rfl,hq,hnd,hrow,hbx2⟩:=hcut.out
 obtain ⟨pa,pc,rfl,hpc,hN,hf⟩:=natRow_open hrow
 have HX:=Hd (ExprIn.mk' HS1.out hbx2 hnd hq hN hf hpc)
 clear hcut hq hnd hrow hbx2 hpc hN hf HS1
 have HC:=Hd HX.out.st
 obtain ⟨z0,z1,z2⟩:=HC.out.cells
 obtain ⟨⟨n0,n1,n2,n3,n4,n5⟩,_⟩:=six_block (HX.out.node _ (KeepP.refl _ _))
 obtain ⟨kk,n,p,i,s,y⟩:=x
 have he:=HEk.out
 clear HEk
 simp only at he hlen n0 n1 n2 n3 n4 n5
 rcases he with rfl | rfl | rfl | rfl
 ·-- 1
  rw [show arityN 1 = (0,0) from by decide] at hlen
  simp only at hlen
  have hB:exprB t P (exprN t fr) ⟨1,n,p,i,s,y⟩ = [tkI ⟨1,n,p,i,s,y⟩]:=rfl
  have hgd:=ndI_good (x:=⟨1,n,p,i,s,y⟩) hw rfl
  rw [hB] at hn
  simp only [List.length_singleton] at hn
  go_upto_region 6 with fail
  generalize hg3:wc.alloc _ = w3 at *
  obtain ⟨hx3,hb3⟩:=alloc_at hg3
  clear hg3
  have HD:=Hd (HC.out.below hb3)
  have hND:=HX.out.node w3 HD.out.keep
  obtain ⟨⟨n0,n1,n2,n3,n4,n5⟩,_⟩:=six_block hND
  obtain ⟨z0,z1,z2⟩:=HD.out.cells
  by_cases hu:y = ⟨#[117]⟩
  ·have t1:(y.toList == [117]) = true:=lit_eq (l:=[117]) (by rw [hu]) rfl
   have hK:tkI ⟨1,n,p,i,s,y⟩ = ⟨3,0,i,⟨#[117]⟩⟩:=by unfold tkI;rw [if_pos hu]
   rw [hK] at hgd hB
   have HT:=Hd (token_puts (pb:=pb) (a:=some ⟨ba,off,none⟩) (b:=b) (t:=t) (fr:=fr) hgd)
   have h2:=set_blkP (i:=3) hx3 (.string ⟨#[117]⟩)
   have f3:=(four_blockP hx3).2 3
   have c3':=(four_blockP hx3).1.2.2.2
   have HE:=Hd (HC.out.below (hb3.setCell (p:=⟨wc.heap.size,3,none⟩) (Nat.le_refl _) (.string ⟨#[117]⟩)))
   obtain ⟨⟨c0,c1,c2,c3⟩,_⟩:=four_blockP h2
   obtain ⟨z0,z1,z2⟩:=HE.out.cells
   unfold tokV at HT
   simp only at HT
   go_wp2_with (go_at_call 95;(refine (HE.out.call HT.out (by first | omega | (simp;omega))).mono ?_);rintro e w5 ⟨rfl,hs⟩;have HF:=Hd hs;clear hs)
   go_end0
   rw [hB]
   simpa using HF.out.end_from HX.out.keep
  ·have t1:(y.toList == [117]) = false:=lit_ne (fun e=>hu (toList_eq e))
   have hK:tkI ⟨1,n,p,i,s,y⟩ = ⟨3,0,i,⟨#[]⟩⟩:=by unfold tkI;rw [if_neg hu]
   rw [hK] at hgd hB
   have HT:=Hd (token_puts (pb:=pb) (a:=some ⟨ba,off,none⟩) (b:=b) (t:=t) (fr:=fr) hgd)
   obtain ⟨⟨c0,c1,c2,c3⟩,_⟩:=four_blockP hx3
   unfold tokV at HT
   simp only at HT
   go_wp2_with (go_at_call 95;(refine (HD.out.call HT.out (by first | omega | (simp;omega))).mono ?_);rintro e w5 ⟨rfl,hs⟩;have HF:=Hd hs;clear hs)
   go_end0
   rw [hB]
   simpa using HF.out.end_from HX.out.keep
 ·-- 2
  rw [show arityN 2 = (0,0) from by decide] at hlen
  simp only at hlen
  have hB:exprB t P (exprN t fr) ⟨2,n,p,i,s,y⟩ = [tkS s]:=rfl
  have hsz:=good_size (ndS_good (x:=⟨2,n,p,i,s,y⟩) hw rfl)
  have hwd:wordV (tkS s) = ⟨(quoteL s.data.toList).toArray⟩:=by simp [wordV,wordL,tkS]
  rw [hB] at hn
  simp only [List.length_singleton] at hn
  have HQu:=Hd (fun w=>lexQuote_ok s w (by have:s.size ≤ 4096:=hsz;omega))
  generalize (⟨(quoteL s.data.toList).toArray⟩:ByteArray) = s2 at *
  have HCl:=Hd (fun W' w' (h:PrSt pb (some ⟨ba,off,none⟩) cap t b capb fr w.heap.size wc W' w')=>show w'.cell? ⟨w.heap.size,0,none⟩ = some (.pointer (some ⟨pb,0,none⟩)) ∧ w'.cell? ⟨q,4,none⟩ = some (.string s) from ⟨h.cells.1,(six_block (HX.out.node w' h.keep)).1.2.2.2.2.1⟩)
  go_upto_region 10 with fail
  go_region_held3 (fun w'=>w'.cell? ⟨w.heap.size,0,none⟩ = some (.pointer (some ⟨pb,0,none⟩)) ∧ w'.cell? ⟨q,4,none⟩ = some (.string s))
   ((first | with_reducible exact HCl.out _ _ HD.out | with_reducible exact HCl.out _ _ (HC.out.below (Below.refl _ _).drew) | with_reducible exact HCl.out _ _ (HC.out.below HB2.out) | (have hq:=HB2;with_reducible exact HCl.out _ _ (HC.out.below (hq.out.alloc hq.out.size _)))))
   (first
     | (go_at_call 97;(with_reducible refine (HQu.out _).mono ?_);rintro e w2 ⟨rfl,hb2⟩;have HB2:=Hd (show Below wc.heap.size wc w2 from (Below.refl _ _).drew.trans (hb2.mono (Nat.le_refl _)));clear hb2)
     | (go_at_call 96;(refine ((HC.out.below HB2.out).put1 s2 (by omega)).mono ?_);rintro e w3 ⟨rfl,hs⟩;have HD:=Hd hs;clear hs))
  all_goals go_end0
  all_goals rw [hB]
  all_goals simpa [hwd] using HD.out.end_from HX.out.keep
 ·-- 3
  rw [show arityN 3 = (0,0) from by decide] at hlen
  simp only at hlen
  have hB:exprB t P (exprN t fr) ⟨3,n,p,i,s,y⟩ = [tkN s]:=rfl
  rw [hB] at hn
  simp only [List.length_cons,List.length_nil] at hn
  go_wp2_with (go_at_call 96;(refine (HC.out.put1 s (by first | omega | (simp;omega))).mono ?_);rintro e w3 ⟨rfl,hs⟩;have HD:=Hd hs;clear hs)
  go_end0
  rw [hB]
  simpa [word_M,word_N,word_K] using HD.out.end_from HX.out.keep
 ·-- 17
  rw [show arityN 17 = (0,0) from by decide] at hlen
  simp only at hlen
  have hB:exprB t P (exprN t fr) ⟨17,n,p,i,s,y⟩ = tkK ⟨#[115,105,122,101,111,102]⟩ :: brkT y:=rfl
  have HBr:=Hd (bracketed_puts (pb:=pb) (a:=some ⟨ba,off,none⟩) (b:=b) (cap:=cap) (capb:=capb) (t:=t) (fr:=fr) y)
  rw [hB] at hn
  simp only [List.length_cons] at hn
  generalize brkT y = R at *
  go_upto_region 34 with (go_at_call 96;(refine (HC.out.put1 ⟨#[115,105,122,101,111,102]⟩ (by first | omega | (simp;omega))).mono ?_);rintro e w3 ⟨rfl,hs⟩;have HD:=Hd hs;clear hs)
  obtain ⟨z0,z1,z2⟩:=HD.out.cells
  obtain ⟨⟨n0,n1,n2,n3,n4,n5⟩,_⟩:=six_block (HX.out.node w3 HD.out.keep)
  go_wp2_with (go_at_call 101;(refine (HD.out.call HBr.out (by first | omega | (simp;omega))).mono ?_);rintro e w5 ⟨rfl,hs⟩;have HE:=Hd hs;clear hs)
  go_end0
  rw [hB]
  simpa [word_M,word_N,word_K] using HE.out.end_from HX.out.keep
end Go.Proofs.YtkokdafkjjcgoaaGreatDoor
