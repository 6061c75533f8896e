/- An expression laid out, of the kinds 4, 5, 15, 16: the progr -/
import Derived.Test.YtkokdafkjjcgoaaGreatDoorMg29
namespace Go.Proofs.YtkokdafkjjcgoaaGreatDoor
open Go.RowKit
set_option maxRecDepth 100000
set_option maxHeartbeats 40000000 in
theorem expr9_b {pb:Nat} {a b:Option Addr} {cap capb:Nat} {t:List Nd} {fr:List Nat} (hR:Right9 t fr) (k:Nat) (hk:k < t.length) (he:kindAt t k = 4 ∨ kindAt t k = 5 ∨ kindAt t k = 15 ∨ kindAt t k = 16)
 (HA:Hid (∀ (due:Int),∀ p ∈ partsAt t fr k,Puts pb a t b fr 98 #[prV pb a t.length cap b fr.length capb,.int .i64 (p:Int),.int .i64 due] (partN t fr due p))) :
 Puts pb a t b fr 53 #[prV pb a t.length cap b fr.length capb,.int .i64 (k:Int)] (exprN t fr k):=by
 intro W w hP hO hn
 have hlen:=parts_len9 hR hk
 obtain ⟨hx,hw⟩:=hR.nd hk
 have hPl:(partsAt t fr k).length ≤ 4096:=by rw [partsAt_is hx,partsE_length];have:=(hR.given.formed.node k _ hx).2.1.le;have:=hR.given.le;omega
 rw [exprN_eq hR.given.formed] at hn ⊢
 rw [ndAt_kind] at he
 have HPt:=Hd (fun w1 (h:PrOk pb a t b fr w1)=>tparts_ok a cap t b capb fr w1 h.nds.sl h.nats.sl hR.given.le hR.given.formed k hk)
 have HNd:=Hd (fun w1 (h:PrOk pb a t b fr w1)=>nds_at h.nds.sl hk)
 have hxe:t[k] = ndAt t k:=(ndAt_is (List.getElem?_eq_getElem hk)).symm
 rw [hxe] at HNd
 have HS0:=Hd (fun w1 h=>PrSt.start (cap:=cap) (capb:=capb) (w1:=w1) hP hO h)
 generalize ndAt t k = x at *
 generalize partsAt t fr k = P at *
 clear hP hO hxe hx
 have HEk:=Hd he
 clear he
 go_enter Tryz.func53,Tryz.ntmps53
 go_upto_region 1 with fail
 generalize hg1:w.alloc _ = w1 at *
 have HS1:=Hd (HS0.out w1 rfl)
 have hbx:w.heap.size < w1.heap.size:=by rw [← hg1];simp
 clear hg1 HS0
 obtain ⟨y0,y1,y2⟩:=HS1.out.cells
 obtain ⟨ba,off,ha,hbl,x0,x1,x2,x3,x4,x5⟩:=HNd.out w1 HS1.out.ok
 subst ha
 have HCl:=Hd (fun w' (h:Below w1.heap.size w1 w')=>show w'.cell? ⟨w.heap.size,1,none⟩ = some (.slice (some ⟨ba,off,none⟩) t.length cap) ∧ w'.cell? ⟨w.heap.size,2,none⟩ = some (.slice b fr.length capb) ∧ w'.cell? ⟨ba,off + k * 6,none⟩ = some (.int .i64 x.kind) ∧ w'.cell? ⟨ba,off + k * 6 + 1,none⟩ = some (.int .i64 x.n) ∧ w'.cell? ⟨ba,off + k * 6 + 2,none⟩ = some (.int .i64 x.at_) ∧ w'.cell? ⟨ba,off + k * 6 + 3,none⟩ = some (.int .i64 x.int) ∧ w'.cell? ⟨ba,off + k * 6 + 4,none⟩ = some (.string x.text) ∧ w'.cell? ⟨ba,off + k * 6 + 5,none⟩ = some (.string x.type) from by
  rw [h.cell hbx,h.cell hbx,h.cell hbl,h.cell hbl,h.cell hbl,h.cell hbl,h.cell hbl,h.cell hbl];exact ⟨y1,y2,x0,x1,x2,x3,x4,x5⟩)
 have HP1:=Hd (HPt.out w1.drew (HS1.out.below (Below.refl _ _).drew).ok)
 have HP2:=Hd (HPt.out (w1.alloc (ndObj ⟨0,0,0,0,⟨#[]⟩,⟨#[]⟩⟩)).drew (HS1.out.below ((Below.refl _ _).alloc (Nat.le_refl _) _).drew).ok)
 have HZ:=Hd (nodeP_new w1 ⟨0,0,0,0,⟨#[]⟩,⟨#[]⟩⟩)
 simp only [ndObj] at HP2 HZ
 go_cut [4,5] (fun s4 s5 wx=>Hid (∃ q,s4 = .pointer (some ⟨q,0,none⟩) ∧ w1.heap.size ≤ q ∧ NodeP wx q x ∧ NatRow wx w1.heap.size s5 P ∧ Below w1.heap.size w1 wx))
 case first=>
  go_region_held3 (fun w'=>w'.cell? ⟨w.heap.size,1,none⟩ = some (.slice (some ⟨ba,off,none⟩) t.length cap) ∧ w'.cell? ⟨w.heap.size,2,none⟩ = some (.slice b fr.length capb) ∧ w'.cell? ⟨ba,off + k * 6,none⟩ = some (.int .i64 x.kind) ∧ w'.cell? ⟨ba,off + k * 6 + 1,none⟩ = some (.int .i64 x.n) ∧ w'.cell? ⟨ba,off + k * 6 + 2,none⟩ = some (.int .i64 x.at_) ∧ w'.cell? ⟨ba,off + k * 6 + 3,none⟩ = some (.int .i64 x.int) ∧ w'.cell? ⟨ba,off + k * 6 + 4,none⟩ = some (.string x.text) ∧ w'.cell? ⟨ba,off + k * 6 + 5,none⟩ = some (.string x.type))
   ((refine HCl.out _ ?_;first | with_reducible exact (Below.refl _ _).drew | with_reducible exact ((Below.refl _ _).alloc (Nat.le_refl _) _).drew | with_reducible exact (HB2).out | (have hq:=HB2;with_reducible exact hq.out.alloc hq.out.size _) | (have hq:=HB2;with_reducible exact below_set6P hq.out (Nat.le_refl _) x)))
   (first
     | (go_at_call 42;(with_reducible refine HP1.out.mono ?_);rintro e w2 ⟨⟨v2,rfl,hrow⟩,hb2⟩;have HB2:=Hd (show Below w1.heap.size w1 w2 from (Below.refl _ _).drew.trans (hb2.mono (Nat.le_refl _)));have HRow:=Hd hrow;clear hb2 hrow)
     | (go_at_call 42;(with_reducible refine HP2.out.mono ?_);rintro e w2 ⟨⟨v2,rfl,hrow⟩,hb2⟩;have HB2:=Hd (show Below w1.heap.size w1 w2 from ((Below.refl _ _).alloc (Nat.le_refl _) _).drew.trans (hb2.mono (by simp)));have hqn:=(show NodeP w2 w1.heap.size _ from (HZ.out.below (Below.refl _ _).drew).below hb2);have HQ:=Hd hqn;have HRw:=Hd hrow;obtain ⟨⟨q0,q1,q2,q3,q4,q5⟩,qf⟩:=six_block hqn;have qf0:=qf 0;have qf1:=qf 1;have qf2:=qf 2;have qf3:=qf 3;have qf4:=qf 4;have qf5:=qf 5;clear hb2 qf hqn hrow))
  all_goals go_wp2_with fail
  all_goals go_meet
  all_goals refine Hd ⟨_,rfl,?_,?_,?_,?_⟩
  ·exact HB2.out.size
  ·exact nodeP_new _ x
  ·exact HRow.out.belowed (ba1 _ _)
  ·exact HB2.out.alloc HB2.out.size _
  ·exact Nat.le_refl _
  ·exact HQ.out.set x
  ·exact natRow_le (natRow_set6 HRw.out (fun e=>by have:=HRw.out;unfold NatRow at this;have:=(this.lt _ e).1;simp at this;omega) x) (by simp)
  ·exact below_set6P HB2.out (Nat.le_refl _) x
 case rest=>
 clear x0 x1 x2 x3 x4 x5 HCl HP1 HP2 HZ HPt HNd y0 y1 y2
 obtain ⟨q,rfl,hq,hnd,hrow,hbx2⟩:=hcut.out
 obtain ⟨pa,pc,rfl,hpc,hN,hf⟩:=natRow_open hrow
 have HX:=Hd (ExprIn.mk' HS1.out hbx2 hnd hq hN hf hpc)
 clear hcut hq hnd hrow hbx2 hpc hN hf HS1
 have HC:=Hd HX.out.st
 obtain ⟨z0,z1,z2⟩:=HC.out.cells
 obtain ⟨⟨n0,n1,n2,n3,n4,n5⟩,_⟩:=six_block (HX.out.node _ (KeepP.refl _ _))
 obtain ⟨kk,n,p,i,s,y⟩:=x
 have he:=HEk.out
 clear HEk
 simp only at he hlen n0 n1 n2 n3 n4 n5
 rcases he with rfl | rfl | rfl | rfl
 ·-- 4
  rw [show arityN 4 = (1,1) from by decide] at hlen
  simp only at hlen
  have hl0:0 < P.length:=by omega
  have hB:exprB t P (exprN t fr) ⟨4,n,p,i,s,y⟩ = tkM s :: atF P (partF t (exprN t fr) 14) 0:=rfl
  have HA0:=Hd (HA.out (14) P[0] (List.getElem_mem hl0))
  unfold partN at HA0
  rw [atF_is hl0] at hB
  rw [hB] at hn
  simp only [List.length_cons] at hn
  generalize partF t (exprN t fr) (14) P[0] = L0 at *
  go_upto_region 15 with (go_at_call 96;(refine (HC.out.put1 s (by first | omega | (simp;omega))).mono ?_);rintro e w3 ⟨rfl,hs⟩;have HD:=Hd hs;clear hs)
  obtain ⟨z0,z1,z2⟩:=HD.out.cells
  obtain ⟨b5,o5,ha,c0⟩:=nats_atP (HX.out.sl w3 HD.out.keep).sl hl0
  subst ha
  rw [Nat.add_zero] at c0
  go_still_tail 4,(by kernel_rfl)
  change wpList _ _ _ _ _ w3.drew
  have HE:=Hd (HD.out.below ((Below.refl _ w3).drew))
  go_wp2_with (go_at_call 98;(refine (HE.out.call HA0.out (by first | omega | (simp;omega))).mono ?_);rintro e w5 ⟨rfl,hs⟩;have HF:=Hd hs;clear hs)
  go_end0
  rw [hB]
  simpa [word_M,word_N,word_K] using HF.out.end_from HX.out.keep
 ·-- 5
  rw [show arityN 5 = (1,1) from by decide] at hlen
  simp only at hlen
  have hl0:0 < P.length:=by omega
  have hB:exprB t P (exprN t fr) ⟨5,n,p,i,s,y⟩ = tkM s :: atF P (partF t (exprN t fr) 15) 0:=rfl
  have HA0:=Hd (HA.out (15) P[0] (List.getElem_mem hl0))
  unfold partN at HA0
  rw [atF_is hl0] at hB
  rw [hB] at hn
  simp only [List.length_cons] at hn
  generalize partF t (exprN t fr) (15) P[0] = L0 at *
  go_upto_region 18 with (go_at_call 96;(refine (HC.out.put1 s (by first | omega | (simp;omega))).mono ?_);rintro e w3 ⟨rfl,hs⟩;have HD:=Hd hs;clear hs)
  obtain ⟨z0,z1,z2⟩:=HD.out.cells
  obtain ⟨b5,o5,ha,c0⟩:=nats_atP (HX.out.sl w3 HD.out.keep).sl hl0
  subst ha
  rw [Nat.add_zero] at c0
  go_still_tail 4,(by kernel_rfl)
  change wpList _ _ _ _ _ w3.drew
  have HE:=Hd (HD.out.below ((Below.refl _ w3).drew))
  go_wp2_with (go_at_call 98;(refine (HE.out.call HA0.out (by first | omega | (simp;omega))).mono ?_);rintro e w5 ⟨rfl,hs⟩;have HF:=Hd hs;clear hs)
  go_end0
  rw [hB]
  simpa [word_M,word_N,word_K] using HF.out.end_from HX.out.keep
 ·-- 15
  rw [show arityN 15 = (1,1) from by decide] at hlen
  simp only at hlen
  have hl0:0 < P.length:=by omega
  have hB:exprB t P (exprN t fr) ⟨15,n,p,i,s,y⟩ = brkT y ++ atF P (partF t (exprN t fr) 14) 0:=rfl
  have HA0:=Hd (HA.out (14) P[0] (List.getElem_mem hl0))
  unfold partN at HA0
  rw [atF_is hl0] at hB
  have HBr:=Hd (bracketed_puts (pb:=pb) (a:=some ⟨ba,off,none⟩) (b:=b) (cap:=cap) (capb:=capb) (t:=t) (fr:=fr) y)
  rw [hB] at hn
  simp only [List.length_append] at hn
  generalize partF t (exprN t fr) (14) P[0] = L0 at *
  generalize brkT y = R at *
  go_upto_region 31 with (go_at_call 101;(refine (HC.out.call HBr.out (by first | omega | (simp;omega))).mono ?_);rintro e w3 ⟨rfl,hs⟩;have HD:=Hd hs;clear hs)
  obtain ⟨z0,z1,z2⟩:=HD.out.cells
  obtain ⟨b5,o5,ha,c0⟩:=nats_atP (HX.out.sl w3 HD.out.keep).sl hl0
  subst ha
  rw [Nat.add_zero] at c0
  go_still_tail 4,(by kernel_rfl)
  change wpList _ _ _ _ _ w3.drew
  have HE:=Hd (HD.out.below ((Below.refl _ w3).drew))
  go_wp2_with (go_at_call 98;(refine (HE.out.call HA0.out (by first | omega | (simp;omega))).mono ?_);rintro e w5 ⟨rfl,hs⟩;have HF:=Hd hs;clear hs)
  go_end0
  rw [hB]
  simpa [word_M,word_N,word_K] using HF.out.end_from HX.out.keep
 ·-- 16
  rw [show arityN 16 = (1,1) from by decide] at hlen
  simp only at hlen
  have hl0:0 < P.length:=by omega
  have hB:exprB t P (exprN t fr) ⟨16,n,p,i,s,y⟩ = tkK ⟨#[115,105,122,101,111,102]⟩ :: atF P (partF t (exprN t fr) 15) 0:=rfl
  have HA0:=Hd (HA.out (15) P[0] (List.getElem_mem hl0))
  unfold partN at HA0
  rw [atF_is hl0] at hB
  rw [hB] at hn
  simp only [List.length_cons] at hn
  generalize partF t (exprN t fr) (15) P[0] = L0 at *
  go_upto_region 37 with (go_at_call 96;(refine (HC.out.put1 ⟨#[115,105,122,101,111,102]⟩ (by first | omega | (simp;omega))).mono ?_);rintro e w3 ⟨rfl,hs⟩;have HD:=Hd hs;clear hs)
  obtain ⟨z0,z1,z2⟩:=HD.out.cells
  obtain ⟨b5,o5,ha,c0⟩:=nats_atP (HX.out.sl w3 HD.out.keep).sl hl0
  subst ha
  rw [Nat.add_zero] at c0
  go_still_tail 4,(by kernel_rfl)
  change wpList _ _ _ _ _ w3.drew
  have HE:=Hd (HD.out.below ((Below.refl _ w3).drew))
  go_wp2_with (go_at_call 98;(refine (HE.out.call HA0.out (by first | omega | (simp;omega))).mono ?_);rintro e w5 ⟨rfl,hs⟩;have HF:=Hd hs;clear hs)
  go_end0
  rw [hB]
  simpa [word_M,word_N,word_K] using HF.out.end_from HX.out.keep
set_option maxHeartbeats 40000000 in
theorem expr9_c {pb:Nat} {a b:Option Addr} {cap capb:Nat} {t:List Nd} {fr:List Nat} (hR:Right9 t fr) (k:Nat) (hk:k < t.length) (he:kindAt t k = 6 ∨ kindAt t k = 10 ∨ kindAt t k = 11 ∨ kindAt t k = 12 ∨ kindAt t k = 13 ∨ kindAt t k = 14)
 (HA:Hid (∀ (due:Int),∀ p ∈ partsAt t fr k,Puts pb a t b fr 98 #[prV pb a t.length cap b fr.length capb,.int .i64 (p:Int),.int .i64 due] (partN t fr due p))) :
 Puts pb a t b fr 53 #[prV pb a t.length cap b fr.length capb,.int .i64 (k:Int)] (exprN t fr k):=by
 intro W w hP hO hn
 have hlen:=parts_len9 hR hk
 obtain ⟨hx,hw⟩:=hR.nd hk
 have hPl:(partsAt t fr k).length ≤ 4096:=by rw [partsAt_is hx,partsE_length];have:=(hR.given.formed.node k _ hx).2.1.le;have:=hR.given.le;omega
 rw [exprN_eq hR.given.formed] at hn ⊢
 rw [ndAt_kind] at he
 have HPt:=Hd (fun w1 (h:PrOk pb a t b fr w1)=>tparts_ok a cap t b capb fr w1 h.nds.sl h.nats.sl hR.given.le hR.given.formed k hk)
 have HNd:=Hd (fun w1 (h:PrOk pb a t b fr w1)=>nds_at h.nds.sl hk)
 have hxe:t[k] = ndAt t k:=(ndAt_is (List.getElem?_eq_getElem hk)).symm
 rw [hxe] at HNd
 have HS0:=Hd (fun w1 h=>PrSt.start (cap:=cap) (capb:=capb) (w1:=w1) hP hO h)
 generalize ndAt t k = x at *
 generalize partsAt t fr k = P at *
 clear hP hO hxe hx
 have HEk:=Hd he
 clear he
 go_enter Tryz.func53,Tryz.ntmps53
 go_upto_region 1 with fail
 generalize hg1:w.alloc _ = w1 at *
 have HS1:=Hd (HS0.out w1 rfl)
 have hbx:w.heap.size < w1.heap.size:=by rw [← hg1];simp
 clear hg1 HS0
 obtain ⟨y0,y1,y2⟩:=HS1.out.cells
 obtain ⟨ba,off,ha,hbl,x0,x1,x2,x3,x4,x5⟩:=HNd.out w1 HS1.out.ok
 subst ha
 have HCl:=Hd (fun w' (h:Below w1.heap.size w1 w')=>show w'.cell? ⟨w.heap.size,1,none⟩ = some (.slice (some ⟨ba,off,none⟩) t.length cap) ∧ w'.cell? ⟨w.heap.size,2,none⟩ = some (.slice b fr.length capb) ∧ w'.cell? ⟨ba,off + k * 6,none⟩ = some (.int .i64 x.kind) ∧ w'.cell? ⟨ba,off + k * 6 + 1,none⟩ = some (.int .i64 x.n) ∧ w'.cell? ⟨ba,off + k * 6 + 2,none⟩ = some (.int .i64 x.at_) ∧ w'.cell? ⟨ba,off + k * 6 + 3,none⟩ = some (.int .i64 x.int) ∧ w'.cell? ⟨ba,off + k * 6 + 4,none⟩ = some (.string x.text) ∧ w'.cell? ⟨ba,off + k * 6 + 5,none⟩ = some (.string x.type) from by
  rw [h.cell hbx,h.cell hbx,h.cell hbl,h.cell hbl,h.cell hbl,h.cell hbl,h.cell hbl,h.cell hbl];exact ⟨y1,y2,x0,x1,x2,x3,x4,x5⟩)
 have HP1:=Hd (HPt.out w1.drew (HS1.out.below (Below.refl _ _).drew).ok)
 have HP2:=Hd (HPt.out (w1.alloc (ndObj ⟨0,0,0,0,⟨#[]⟩,⟨#[]⟩⟩)).drew (HS1.out.below ((Below.refl _ _).alloc (Nat.le_refl _) _).drew).ok)
 have HZ:=Hd (nodeP_new w1 ⟨0,0,0,0,⟨#[]⟩,⟨#[]⟩⟩)
 simp only [ndObj] at HP2 HZ
 go_cut [4,5] (fun s4 s5 wx=>Hid (∃ q,s4 = .pointer (some ⟨q,0,none⟩) ∧ w1.heap.size ≤ q ∧ NodeP wx q x ∧ NatRow wx w1.heap.size s5 P ∧ Below w1.heap.size w1 wx))
 case first=>
  go_region_held3 (fun w'=>w'.cell? ⟨w.heap.size,1,none⟩ = some (.slice (some ⟨ba,off,none⟩) t.length cap) ∧ w'.cell? ⟨w.heap.size,2,none⟩ = some (.slice b fr.length capb) ∧ w'.cell? ⟨ba,off + k * 6,none⟩ = some (.int .i64 x.kind) ∧ w'.cell? ⟨ba,off + k * 6 + 1,none⟩ = some (.int .i64 x.n) ∧ w'.cell? ⟨ba,off + k * 6 + 2,none⟩ = some (.int .i64 x.at_) ∧ w'.cell? ⟨ba,off + k * 6 + 3,none⟩ = some (.int .i64 x.int) ∧ w'.cell? ⟨ba,off + k * 6 + 4,none⟩ = some (.string x.text) ∧ w'.cell? ⟨ba,off + k * 6 + 5,none⟩ = some (.string x.type))
   ((refine HCl.out _ ?_;first | with_reducible exact (Below.refl _ _).drew | with_reducible exact ((Below.refl _ _).alloc (Nat.le_refl _) _).drew | with_reducible exact (HB2).out | (have hq:=HB2;with_reducible exact hq.out.alloc hq.out.size _) | (have hq:=HB2;with_reducible exact below_set6P hq.out (Nat.le_refl _) x)))
   (first
     | (go_at_call 42;(with_reducible refine HP1.out.mono ?_);rintro e w2 ⟨⟨v2,rfl,hrow⟩,hb2⟩;have HB2:=Hd (show Below w1.heap.size w1 w2 from (Below.refl _ _).drew.trans (hb2.mono (Nat.le_refl _)));have HRow:=Hd hrow;clear hb2 hrow)
     | (go_at_call 42;(with_reducible refine HP2.out.mono ?_);rintro e w2 ⟨⟨v2,rfl,hrow⟩,hb2⟩;have HB2:=Hd (show Below w1.heap.size w1 w2 from ((Below.refl _ _).alloc (Nat.le_refl _) _).drew.trans (hb2.mono (by simp)));have hqn:=(show NodeP w2 w1.heap.size _ from (HZ.out.below (Below.refl _ _).drew).below hb2);have HQ:=Hd hqn;have HRw:=Hd hrow;obtain ⟨⟨q0,q1,q2,q3,q4,q5⟩,qf⟩:=six_block hqn;have qf0:=qf 0;have qf1:=qf 1;have qf2:=qf 2;have qf3:=qf 3;have qf4:=qf 4;have qf5:=qf 5;clear hb2 qf hqn hrow))
  all_goals go_wp2_with fail
  all_goals go_meet
  all_goals refine Hd ⟨_,rfl,?_,?_,?_,?_⟩
  ·exact HB2.out.size
  ·exact nodeP_new _ x
  ·exact HRow.out.belowed (ba1 _ _)
  ·exact HB2.out.alloc HB2.out.size _
  ·exact Nat.le_refl _
  ·exact HQ.out.set x
  ·exact natRow_le (natRow_set6 HRw.out (fun e=>by have:=HRw.out;unfold NatRow at this;have:=(this.lt _ e).1;simp at this;omega) x) (by simp)
  ·exact below_set6P HB2.out (Nat.le_refl _) x
 case rest=>
 clear x0 x1 x2 x3 x4 x5 HCl HP1 HP2 HZ HPt HNd y0 y1 y2
 obtain ⟨q,rfl,hq,hnd,hrow,hbx2⟩:=hcut.out
 obtain ⟨pa,pc,rfl,hpc,hN,hf⟩:=natRow_open hrow
 have HX:=Hd (ExprIn.mk' HS1.out hbx2 hnd hq hN hf hpc)
 clear hcut hq hnd hrow hbx2 hpc hN hf HS1
 have HC:=Hd HX.out.st
 obtain ⟨z0,z1,z2⟩:=HC.out.cells
 obtain ⟨⟨n0,n1,n2,n3,n4,n5⟩,_⟩:=six_block (HX.out.node _ (KeepP.refl _ _))
 obtain ⟨kk,n,p,i,s,y⟩:=x
 have he:=HEk.out
 clear HEk
 simp only at he hlen n0 n1 n2 n3 n4 n5
 rcases he with rfl | rfl | rfl | rfl | rfl | rfl
 ·-- 6
  rw [show arityN 6 = (1,1) from by decide] at hlen
  simp only at hlen
  have hB:exprB t P (exprN t fr) ⟨6,n,p,i,s,y⟩ = atF P (partF t (exprN t fr) 16) 0 ++ backB t P (exprN t fr) ⟨6,n,p,i,s,y⟩:=rfl
  have HPo:=Hd (postfix_ok (la:=pa) (lc:=pc) (x:=⟨6,n,p,i,s,y⟩) (by simp) hPl HX.out.len (by omega) (by intro h;simp at h) HA.out)
  rw [hB] at hn
  generalize atF P (partF t (exprN t fr) 16) 0 ++ backB t P (exprN t fr) ⟨6,n,p,i,s,y⟩ = R at *
  unfold ndV at HPo
  simp only at HPo
  go_wp2_with (go_at_call 102;(refine (HC.out.callL HPo.out (HX.out.sl _ HC.out.keep) (by first | omega | (simp;omega))).mono ?_);rintro e w3 ⟨rfl,hs⟩;have HD:=Hd hs;clear hs)
  go_end0
  rw [hB]
  simpa [word_M,word_N,word_K] using HD.out.end_from HX.out.keep
 ·-- 10
  rw [show arityN 10 = (2,2) from by decide] at hlen
  simp only at hlen
  have hl0:0 < P.length:=by omega
  have hl1:1 < P.length:=by omega
  have hB:exprB t P (exprN t fr) ⟨10,n,p,i,s,y⟩ = atF P (partF t (exprN t fr) 1) 0 ++ tkM ⟨#[44]⟩ :: atF P (partF t (exprN t fr) 2) 1:=rfl
  rw [atF_is hl0,atF_is hl1] at hB
  have HI:=Hd (infix_ok (la:=pa) (lc:=pc) (n:=P.length) (P:=P) (by omega) (Nat.le_refl _) (List.getElem?_eq_getElem hl0) (List.getElem?_eq_getElem hl1) (1) (2) ⟨#[44]⟩ (HA.out (1) P[0] (List.getElem_mem hl0)) (HA.out (2) P[1] (List.getElem_mem hl1)))
  unfold partN at HI
  rw [hB] at hn
  generalize partF t (exprN t fr) 1 P[0] ++ tkM ⟨#[44]⟩ :: partF t (exprN t fr) 2 P[1] = R at *
  go_wp2_with (go_at_call 99;(refine (HC.out.callL HI.out (HX.out.sl _ HC.out.keep) (by first | omega | (simp;omega))).mono ?_);rintro e w3 ⟨rfl,hs⟩;have HD:=Hd hs;clear hs)
  go_end0
  rw [hB]
  simpa [word_M,word_N,word_K] using HD.out.end_from HX.out.keep
 ·-- 11
  rw [show arityN 11 = (1,9) from by decide] at hlen
  simp only at hlen
  have hB:exprB t P (exprN t fr) ⟨11,n,p,i,s,y⟩ = atF P (partF t (exprN t fr) 16) 0 ++ backB t P (exprN t fr) ⟨11,n,p,i,s,y⟩:=rfl
  have HPo:=Hd (postfix_ok (la:=pa) (lc:=pc) (x:=⟨11,n,p,i,s,y⟩) (by simp) hPl HX.out.len (by omega) (by intro h;simp at h) HA.out)
  rw [hB] at hn
  generalize atF P (partF t (exprN t fr) 16) 0 ++ backB t P (exprN t fr) ⟨11,n,p,i,s,y⟩ = R at *
  unfold ndV at HPo
  simp only at HPo
  go_wp2_with (go_at_call 102;(refine (HC.out.callL HPo.out (HX.out.sl _ HC.out.keep) (by first | omega | (simp;omega))).mono ?_);rintro e w3 ⟨rfl,hs⟩;have HD:=Hd hs;clear hs)
  go_end0
  rw [hB]
  simpa [word_M,word_N,word_K] using HD.out.end_from HX.out.keep
 ·-- 12
  rw [show arityN 12 = (2,2) from by decide] at hlen
  simp only at hlen
  have hB:exprB t P (exprN t fr) ⟨12,n,p,i,s,y⟩ = atF P (partF t (exprN t fr) 16) 0 ++ backB t P (exprN t fr) ⟨12,n,p,i,s,y⟩:=rfl
  have HPo:=Hd (postfix_ok (la:=pa) (lc:=pc) (x:=⟨12,n,p,i,s,y⟩) (by simp) hPl HX.out.len (by omega) (by intro h;simp at h;omega) HA.out)
  rw [hB] at hn
  generalize atF P (partF t (exprN t fr) 16) 0 ++ backB t P (exprN t fr) ⟨12,n,p,i,s,y⟩ = R at *
  unfold ndV at HPo
  simp only at HPo
  go_wp2_with (go_at_call 102;(refine (HC.out.callL HPo.out (HX.out.sl _ HC.out.keep) (by first | omega | (simp;omega))).mono ?_);rintro e w3 ⟨rfl,hs⟩;have HD:=Hd hs;clear hs)
  go_end0
  rw [hB]
  simpa [word_M,word_N,word_K] using HD.out.end_from HX.out.keep
 ·-- 13
  rw [show arityN 13 = (1,1) from by decide] at hlen
  simp only at hlen
  have hB:exprB t P (exprN t fr) ⟨13,n,p,i,s,y⟩ = atF P (partF t (exprN t fr) 16) 0 ++ backB t P (exprN t fr) ⟨13,n,p,i,s,y⟩:=rfl
  have HPo:=Hd (postfix_ok (la:=pa) (lc:=pc) (x:=⟨13,n,p,i,s,y⟩) (by simp) hPl HX.out.len (by omega) (by intro h;simp at h) HA.out)
  rw [hB] at hn
  generalize atF P (partF t (exprN t fr) 16) 0 ++ backB t P (exprN t fr) ⟨13,n,p,i,s,y⟩ = R at *
  unfold ndV at HPo
  simp only at HPo
  go_wp2_with (go_at_call 102;(refine (HC.out.callL HPo.out (HX.out.sl _ HC.out.keep) (by first | omega | (simp;omega))).mono ?_);rintro e w3 ⟨rfl,hs⟩;have HD:=Hd hs;clear hs)
  go_end0
  rw [hB]
  simpa [word_M,word_N,word_K] using HD.out.end_from HX.out.keep
 ·-- 14
  rw [show arityN 14 = (1,1) from by decide] at hlen
  simp only at hlen
  have hB:exprB t P (exprN t fr) ⟨14,n,p,i,s,y⟩ = atF P (partF t (exprN t fr) 16) 0 ++ backB t P (exprN t fr) ⟨14,n,p,i,s,y⟩:=rfl
  have HPo:=Hd (postfix_ok (la:=pa) (lc:=pc) (x:=⟨14,n,p,i,s,y⟩) (by simp) hPl HX.out.len (by omega) (by intro h;simp at h) HA.out)
  rw [hB] at hn
  generalize atF P (partF t (exprN t fr) 16) 0 ++ backB t P (exprN t fr) ⟨14,n,p,i,s,y⟩ = R at *
  unfold ndV at HPo
  simp only at HPo
  go_wp2_with (go_at_call 102;(refine (HC.out.callL HPo.out (HX.out.sl _ HC.out.keep) (by first | omega | (simp;omega))).mono ?_);rintro e w3 ⟨rfl,hs⟩;have HD:=Hd hs;clear hs)
  go_end0
  rw [hB]
  simpa [word_M,word_N,word_K] using HD.out.end_from HX.out.keep
set_option maxHeartbeats 40000000 in
theorem expr9_d {pb:Nat} {a b:Option Addr} {cap capb:Nat} {t:List Nd} {fr:List Nat} (hR:Right9 t fr) (k:Nat) (hk:k < t.length) (he:kindAt t k = 7 ∨ kindAt t k = 8 ∨ kindAt t k = 9)
 (HA:Hid (∀ (due:Int),∀ p ∈ partsAt t fr k,Puts pb a t b fr 98 #[prV pb a t.length cap b fr.length capb,.int .i64 (p:Int),.int .i64 due] (partN t fr due p))) :
 Puts pb a t b fr 53 #[prV pb a t.length cap b fr.length capb,.int .i64 (k:Int)] (exprN t fr k):=by
 intro W w hP hO hn
 have hlen:=parts_len9 hR hk
 obtain ⟨hx,hw⟩:=hR.nd hk
 have hPl:(partsAt t fr k).length ≤ 4096:=by rw [partsAt_is hx,partsE_length];have:=(hR.given.formed.node k _ hx).2.1.le;have:=hR.given.le;omega
 rw [exprN_eq hR.given.formed] at hn ⊢
 rw [ndAt_kind] at he
 have HPt:=Hd (fun w1 (h:PrOk pb a t b fr w1)=>tparts_ok a cap t b capb fr w1 h.nds.sl h.nats.sl hR.given.le hR.given.formed k hk)
 have HNd:=Hd (fun w1 (h:PrOk pb a t b fr w1)=>nds_at h.nds.sl hk)
 have hxe:t[k] = ndAt t k:=(ndAt_is (List.getElem?_eq_getElem hk)).symm
 rw [hxe] at HNd
 have HS0:=Hd (fun w1 h=>PrSt.start (cap:=cap) (capb:=capb) (w1:=w1) hP hO h)
 generalize ndAt t k = x at *
 generalize partsAt t fr k = P at *
 clear hP hO hxe hx
 have HEk:=Hd he
 clear he
 go_enter Tryz.func53,Tryz.ntmps53
 go_upto_region 1 with fail
 generalize hg1:w.alloc _ = w1 at *
 have HS1:=Hd (HS0.out w1 rfl)
 have hbx:w.heap.size < w1.heap.size:=by rw [← hg1];simp
 clear hg1 HS0
 obtain ⟨y0,y1,y2⟩:=HS1.out.cells
 obtain ⟨ba,off,ha,hbl,x0,x1,x2,x3,x4,x5⟩:=HNd.out w1 HS1.out.ok
 subst ha
 have HCl:=Hd (fun w' (h:Below w1.heap.size w1 w')=>show w'.cell? ⟨w.heap.size,1,none⟩ = some (.slice (some ⟨ba,off,none⟩) t.length cap) ∧ w'.cell? ⟨w.heap.size,2,none⟩ = some (.slice b fr.length capb) ∧ w'.cell? ⟨ba,off + k * 6,none⟩ = some (.int .i64 x.kind) ∧ w'.cell? ⟨ba,off + k * 6 + 1,none⟩ = some (.int .i64 x.n) ∧ w'.cell? ⟨ba,off + k * 6 + 2,none⟩ = some (.int .i64 x.at_) ∧ w'.cell? ⟨ba,off + k * 6 + 3,none⟩ = some (.int .i64 x.int) ∧ w'.cell? ⟨ba,off + k * 6 + 4,none⟩ = some (.string x.text) ∧ w'.cell? ⟨ba,off + k * 6 + 5,none⟩ = some (.string x.type) from by
  rw [h.cell hbx,h.cell hbx,h.cell hbl,h.cell hbl,h.cell hbl,h.cell hbl,h.cell hbl,h.cell hbl];exact ⟨y1,y2,x0,x1,x2,x3,x4,x5⟩)
 have HP1:=Hd (HPt.out w1.drew (HS1.out.below (Below.refl _ _).drew).ok)
 have HP2:=Hd (HPt.out (w1.alloc (ndObj ⟨0,0,0,0,⟨#[]⟩,⟨#[]⟩⟩)).drew (HS1.out.below ((Below.refl _ _).alloc (Nat.le_refl _) _).drew).ok)
 have HZ:=Hd (nodeP_new w1 ⟨0,0,0,0,⟨#[]⟩,⟨#[]⟩⟩)
 simp only [ndObj] at HP2 HZ
 go_cut [4,5] (fun s4 s5 wx=>Hid (∃ q,s4 = .pointer (some ⟨q,0,none⟩) ∧ w1.heap.size ≤ q ∧ NodeP wx q x ∧ NatRow wx w1.heap.size s5 P ∧ Below w1.heap.size w1 wx))
 case first=>
  go_region_held3 (fun w'=>w'.cell? ⟨w.heap.size,1,none⟩ = some (.slice (some ⟨ba,off,none⟩) t.length cap) ∧ w'.cell? ⟨w.heap.size,2,none⟩ = some (.slice b fr.length capb) ∧ w'.cell? ⟨ba,off + k * 6,none⟩ = some (.int .i64 x.kind) ∧ w'.cell? ⟨ba,off + k * 6 + 1,none⟩ = some (.int .i64 x.n) ∧ w'.cell? ⟨ba,off + k * 6 + 2,none⟩ = some (.int .i64 x.at_) ∧ w'.cell? ⟨ba,off + k * 6 + 3,none⟩ = some (.int .i64 x.int) ∧ w'.cell? ⟨ba,off + k * 6 + 4,none⟩ = some (.string x.text) ∧ w'.cell? ⟨ba,off + k * 6 + 5,none⟩ = some (.string x.type))
   ((refine HCl.out _ ?_;first | with_reducible exact (Below.refl _ _).drew | with_reducible exact ((Below.refl _ _).alloc (Nat.le_refl _) _).drew | with_reducible exact (HB2).out | (have hq:=HB2;with_reducible exact hq.out.alloc hq.out.size _) | (have hq:=HB2;with_reducible exact below_set6P hq.out (Nat.le_refl _) x)))
   (first
     | (go_at_call 42;(with_reducible refine HP1.out.mono ?_);rintro e w2 ⟨⟨v2,rfl,hrow⟩,hb2⟩;have HB2:=Hd (show Below w1.heap.size w1 w2 from (Below.refl _ _).drew.trans (hb2.mono (Nat.le_refl _)));have HRow:=Hd hrow;clear hb2 hrow)
     | (go_at_call 42;(with_reducible refine HP2.out.mono ?_);rintro e w2 ⟨⟨v2,rfl,hrow⟩,hb2⟩;have HB2:=Hd (show Below w1.heap.size w1 w2 from ((Below.refl _ _).alloc (Nat.le_refl _) _).drew.trans (hb2.mono (by simp)));have hqn:=(show NodeP w2 w1.heap.size _ from (HZ.out.below (Below.refl _ _).drew).below hb2);have HQ:=Hd hqn;have HRw:=Hd hrow;obtain ⟨⟨q0,q1,q2,q3,q4,q5⟩,qf⟩:=six_block hqn;have qf0:=qf 0;have qf1:=qf 1;have qf2:=qf 2;have qf3:=qf 3;have qf4:=qf 4;have qf5:=qf 5;clear hb2 qf hqn hrow))
  all_goals go_wp2_with fail
  all_goals go_meet
  all_goals refine Hd ⟨_,rfl,?_,?_,?_,?_⟩
  ·exact HB2.out.size
  ·exact nodeP_new _ x
  ·exact HRow.out.belowed (ba1 _ _)
  ·exact HB2.out.alloc HB2.out.size _
  ·exact Nat.le_refl _
  ·exact HQ.out.set x
  ·exact natRow_le (natRow_set6 HRw.out (fun e=>by have:=HRw.out;unfold NatRow at this;have:=(this.lt _ e).1;simp at this;omega) x) (by simp)
  ·exact below_set6P HB2.out (Nat.le_refl _) x
 case rest=>
 clear x0 x1 x2 x3 x4 x5 HCl HP1 HP2 HZ HPt HNd y0 y1 y2
 obtain ⟨q,rfl,hq,hnd,hrow,hbx2⟩:=hcut.out
 obtain ⟨pa,pc,rfl,hpc,hN,hf⟩:=natRow_open hrow
 have HX:=Hd (ExprIn.mk' HS1.out hbx2 hnd hq hN hf hpc)
 clear hcut hq hnd hrow hbx2 hpc hN hf HS1
 have HC:=Hd HX.out.st
 obtain ⟨z0,z1,z2⟩:=HC.out.cells
 obtain ⟨⟨n0,n1,n2,n3,n4,n5⟩,_⟩:=six_block (HX.out.node _ (KeepP.refl _ _))
 obtain ⟨kk,n,p,i,s,y⟩:=x
 have he:=HEk.out
 clear HEk
 simp only at he hlen n0 n1 n2 n3 n4 n5
 rcases he with rfl | rfl | rfl
 ·-- 7
  rw [show arityN 7 = (2,2) from by decide] at hlen
  simp only at hlen
  have hl0:0 < P.length:=by omega
  have hl1:1 < P.length:=by omega
  have hB:exprB t P (exprN t fr) ⟨7,n,p,i,s,y⟩ = atF P (partF t (exprN t fr) (levelN s)) 0 ++ tkM s :: atF P (partF t (exprN t fr) (levelN s + 1)) 1:=rfl
  rw [atF_is hl0,atF_is hl1] at hB
  have HI:=Hd (infix_ok (la:=pa) (lc:=pc) (n:=P.length) (P:=P) (by omega) (Nat.le_refl _) (List.getElem?_eq_getElem hl0) (List.getElem?_eq_getElem hl1) (levelN s) (levelN s + 1) s (HA.out (levelN s) P[0] (List.getElem_mem hl0)) (HA.out (levelN s + 1) P[1] (List.getElem_mem hl1)))
  unfold partN at HI
  rw [hB] at hn
  generalize partF t (exprN t fr) (levelN s) P[0] ++ tkM s :: partF t (exprN t fr) (levelN s + 1) P[1] = R at *
  have HLv:=Hd (fun w=>level_ok s w)
  have hlv:=level_small s
  generalize levelN s = lv at *
  go_upto_region 20 with fail
  go_still_tail 11,(by kernel_rfl)
  still_call (HLv.out _)
  repeat still_step
  still_call (HLv.out _)
  repeat still_step
  refine wpStill_nil ?_
  change wpList _ _ _ _ _ wc.drew
  have HE:=Hd (HC.out.below ((Below.refl _ wc).drew))
  go_wp2_with (go_at_call 99;(refine (HE.out.callL HI.out (HX.out.sl _ HE.out.keep) (by first | omega | (simp;omega))).mono ?_);rintro e w3 ⟨rfl,hs⟩;have HD:=Hd hs;clear hs)
  go_end0
  rw [hB]
  simpa [word_M,word_N,word_K] using HD.out.end_from HX.out.keep
 ·-- 8
  rw [show arityN 8 = (2,2) from by decide] at hlen
  simp only at hlen
  have hl0:0 < P.length:=by omega
  have hl1:1 < P.length:=by omega
  have hB:exprB t P (exprN t fr) ⟨8,n,p,i,s,y⟩ = atF P (partF t (exprN t fr) 15) 0 ++ tkM s :: atF P (partF t (exprN t fr) 2) 1:=rfl
  rw [atF_is hl0,atF_is hl1] at hB
  have HI:=Hd (infix_ok (la:=pa) (lc:=pc) (n:=P.length) (P:=P) (by omega) (Nat.le_refl _) (List.getElem?_eq_getElem hl0) (List.getElem?_eq_getElem hl1) (15) (2) s (HA.out (15) P[0] (List.getElem_mem hl0)) (HA.out (2) P[1] (List.getElem_mem hl1)))
  unfold partN at HI
  rw [hB] at hn
  generalize partF t (exprN t fr) 15 P[0] ++ tkM s :: partF t (exprN t fr) 2 P[1] = R at *
  go_wp2_with (go_at_call 99;(refine (HC.out.callL HI.out (HX.out.sl _ HC.out.keep) (by first | omega | (simp;omega))).mono ?_);rintro e w3 ⟨rfl,hs⟩;have HD:=Hd hs;clear hs)
  go_end0
  rw [hB]
  simpa [word_M,word_N,word_K] using HD.out.end_from HX.out.keep
 ·-- 9
  rw [show arityN 9 = (3,3) from by decide] at hlen
  simp only at hlen
  have hl0:0 < P.length:=by omega
  have hl1:1 < P.length:=by omega
  have hl2:2 < P.length:=by omega
  have hB:exprB t P (exprN t fr) ⟨9,n,p,i,s,y⟩ = (atF P (partF t (exprN t fr) 4) 0 ++ tkM ⟨#[63]⟩ :: atF P (partF t (exprN t fr) 1) 1) ++ tkM ⟨#[58]⟩ :: atF P (partF t (exprN t fr) 3) 2:=by
   rw [show exprB t P (exprN t fr) ⟨9,n,p,i,s,y⟩ = atF P (partF t (exprN t fr) 4) 0 ++ tkM ⟨#[63]⟩ :: (atF P (partF t (exprN t fr) 1) 1 ++ tkM ⟨#[58]⟩ :: atF P (partF t (exprN t fr) 3) 2) from rfl]
   simp
  rw [atF_is hl0,atF_is hl1,atF_is hl2] at hB
  have hlc:P.length ≤ pc:=HX.out.len
  have h2c:2 ≤ pc:=by omega
  have h2i:(2:Int) ≤ (pc:Int):=by omega
  have h2j:¬ pc < 2:=by omega
  have HI:=Hd (infix_ok (la:=pa) (lc:=pc) (n:=2) (P:=P) (by omega) (by omega) (List.getElem?_eq_getElem hl0) (List.getElem?_eq_getElem hl1) 4 1 ⟨#[63]⟩ (HA.out 4 P[0] (List.getElem_mem hl0)) (HA.out 1 P[1] (List.getElem_mem hl1)))
  have HA2:=Hd (HA.out 3 P[2] (List.getElem_mem hl2))
  unfold partN at HI HA2
  rw [hB] at hn
  simp only [List.length_append,List.length_cons] at hn
  rw [show (partF t (exprN t fr) 4 P[0]).length + ((partF t (exprN t fr) 1 P[1]).length + 1) = (partF t (exprN t fr) 4 P[0] ++ tkM ⟨#[63]⟩ :: partF t (exprN t fr) 1 P[1]).length by simp] at hn
  generalize partF t (exprN t fr) 4 P[0] ++ tkM ⟨#[63]⟩ :: partF t (exprN t fr) 1 P[1] = R at *
  generalize partF t (exprN t fr) 3 P[2] = R2 at *
  obtain ⟨b5,o5,ha,c0⟩:=nats_atP (HX.out.sl wc HC.out.keep).sl hl0
  subst ha
  go_upto_region 26 with fail
  go_still_tail 3,(by kernel_rfl)
  change wpList _ _ _ _ _ wc.drew
  have HE:=Hd (HC.out.below ((Below.refl _ wc).drew))
  go_upto_region 27 with (go_at_call 99;(refine (HE.out.callL HI.out (HX.out.sl _ HE.out.keep) (by first | omega | (simp;omega))).mono ?_);rintro e w3 ⟨rfl,hs⟩;have HF:=Hd hs;clear hs)
  obtain ⟨z0,z1,z2⟩:=HF.out.cells
  go_upto_region 28 with (go_at_call 96;(refine (HF.out.put1 ⟨#[58]⟩ (by first | omega | (simp;omega))).mono ?_);rintro e w4 ⟨rfl,hs⟩;have HG:=Hd hs;clear hs)
  obtain ⟨z0,z1,z2⟩:=HG.out.cells
  obtain ⟨b6,o6,ha,c2⟩:=nats_atP (HX.out.sl w4 HG.out.keep).sl hl2
  simp only [Option.some.injEq,Addr.mk.injEq] at ha
  obtain ⟨rfl,rfl,_⟩:=ha
  have hn5:(2:Int) < (P.length:Int):=by omega
  go_still_tail 4,(by kernel_rfl)
  change wpList _ _ _ _ _ w4.drew
  have HH:=Hd (HG.out.below ((Below.refl _ w4).drew))
  go_wp2_with (go_at_call 98;(refine (HH.out.call HA2.out (by first | omega | (simp;omega))).mono ?_);rintro e w5 ⟨rfl,hs⟩;have HJ:=Hd hs;clear hs)
  go_end0
  rw [hB]
  simpa [word_M,word_N,word_K] using HJ.out.end_from HX.out.keep
end Go.Proofs.YtkokdafkjjcgoaaGreatDoor
namespace Go.Proofs.YtkokdafkjjcgoaaGreatDoor
theorem expr9_ok {pb:Nat} {a b:Option Addr} {cap capb:Nat} {t:List Nd} {fr:List Nat} (hR:Right9 t fr):∀ (m k:Nat),k < m → k < t.length → exprK (kindAt t k) = true → Puts pb a t b fr 53 #[prV pb a t.length cap b fr.length capb,.int .i64 (k:Int)] (exprN t fr k)
 | 0,k,hm,_,_=>by omega
 | m + 1,k,hm,hk,he=>by
   have HA:=Hd (fun due p (hp:p ∈ partsAt t fr k)=>part9_ok (cap:=cap) (capb:=capb) (pb:=pb) (a:=a) (b:=b) (by have:=(hR.expr hk he p hp).1;omega) (hR.expr hk he p hp).2 (expr9_ok hR m p (by have:=(hR.expr hk he p hp).1;omega) (by have:=(hR.expr hk he p hp).1;omega) (hR.expr hk he p hp).2) due)
   have hc:=exprKinds he
   by_cases ha:kindAt t k = 1 ∨ kindAt t k = 2 ∨ kindAt t k = 3 ∨ kindAt t k = 17
   ·exact expr9_a hR k hk ha HA
   by_cases hb:kindAt t k = 4 ∨ kindAt t k = 5 ∨ kindAt t k = 15 ∨ kindAt t k = 16
   ·exact expr9_b hR k hk hb HA
   by_cases hc:kindAt t k = 6 ∨ kindAt t k = 10 ∨ kindAt t k = 11 ∨ kindAt t k = 12 ∨ kindAt t k = 13 ∨ kindAt t k = 14
   ·exact expr9_c hR k hk hc HA
   by_cases hd:kindAt t k = 7 ∨ kindAt t k = 8 ∨ kindAt t k = 9
   ·exact expr9_d hR k hk hd HA
   ·exfalso
    omega
end Go.Proofs.YtkokdafkjjcgoaaGreatDoor
