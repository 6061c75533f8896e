/- A statement laid out, of the kinds 33, 20, 21, 22: the progr -/
import Derived.Test.YtkokdafkjjcgoaaGreatDoorMg27
namespace Go.Proofs.YtkokdafkjjcgoaaGreatDoor
open Go.RowKit
set_option maxRecDepth 100000
set_option maxHeartbeats 40000000 in
theorem stmt9_a {pb:Nat} {a b:Option Addr} {cap capb:Nat} {t:List Nd} {fr:List Nat} (hR:Right9 t fr) (k:Nat) (hk:k < t.length) (he:kindAt t k = 33 ∨ kindAt t k = 20 ∨ kindAt t k = 21 ∨ kindAt t k = 22)
 (HXp:Hid (∀ (due:Int),∀ p ∈ partsAt t fr k,exprK (kindAt t p) = true → Puts pb a t b fr 98 #[prV pb a t.length cap b fr.length capb,.int .i64 (p:Int),.int .i64 due] (partN t fr due p)))
 (HSp:Hid (∀ p ∈ partsAt t fr k,sK (kindAt t p) → Puts pb a t b fr 119 #[prV pb a t.length cap b fr.length capb,.int .i64 (p:Int)] (stmtN t fr p))) :
 Puts pb a t b fr 119 #[prV pb a t.length cap b fr.length capb,.int .i64 (k:Int)] (stmtN t fr k):=by
 intro W w hP hO hn
 have hlen:=parts_len9 hR hk
 obtain ⟨hx,hw⟩:=hR.nd hk
 have hPl:(partsAt t fr k).length ≤ 4096:=by rw [partsAt_is hx,partsE_length];have:=(hR.given.formed.node k _ hx).2.1.le;have:=hR.given.le;omega
 rw [stmtN_eq hR.given.formed] at hn ⊢
 obtain ⟨hlow,hex,hper,hst⟩:=hR.st hk
 rw [ndAt_kind t k] at he hex hper hst
 have HEx:=Hd (fun due i (hi:i < (partsAt t fr k).length) hc=>HXp.out due _ (List.getElem_mem hi) (hex i hi hc))
 have HPr:=Hd (fun i (hi:i < (partsAt t fr k).length) mark (hc:exprK (kindAt t (partsAt t fr k)[i]) = true ∨ kindAt t (partsAt t fr k)[i] = 33)=>perhaps_ok (f:=partN t fr 1) (cap:=cap) (capb:=capb) (pb:=pb) (a:=a) (b:=b) (fr:=fr) (Nat.lt_trans (hlow _ (List.getElem_mem hi)) hk) mark (fun h33=>HXp.out 1 _ (List.getElem_mem hi) (hc.resolve_right h33)))
 have HPe:=Hd (fun i hi mark hc hj=>HPr.out i hi mark (hper i hi hc hj))
 have HP20:=Hd (fun i hi mark hc=>HPr.out i hi mark (.inl (hex i hi (.inl hc))))
 have HSt:=Hd (fun i (hi:i < (partsAt t fr k).length) hc=>HSp.out _ (List.getElem_mem hi) (hst i hi hc))
 clear hlow hex hper hst HPr
 have HPt:=Hd (fun w1 (h:PrOk pb a t b fr w1)=>tparts_ok a cap t b capb fr w1 h.nds.sl h.nats.sl hR.given.le hR.given.formed k hk)
 have HNd:=Hd (fun w1 (h:PrOk pb a t b fr w1)=>nds_at h.nds.sl hk)
 have hxe:t[k] = ndAt t k:=(ndAt_is (List.getElem?_eq_getElem hk)).symm
 rw [hxe] at HNd
 have HS0:=Hd (fun w1 h=>PrSt.start (cap:=cap) (capb:=capb) (w1:=w1) hP hO h)
 generalize ndAt t k = x at *
 generalize partsAt t fr k = P at *
 clear hP hO hxe hx
 have HEk:=Hd he
 clear he HXp HSp
 go_enter Tryz.func119,Tryz.ntmps119
 go_upto_region 1 with fail
 generalize hg1:w.alloc _ = w1 at *
 have HS1:=Hd (HS0.out w1 rfl)
 have hbx:w.heap.size < w1.heap.size:=by rw [← hg1];simp
 clear hg1 HS0
 obtain ⟨y0,y1,y2⟩:=HS1.out.cells
 obtain ⟨ba,off,ha,hbl,x0,x1,x2,x3,x4,x5⟩:=HNd.out w1 HS1.out.ok
 subst ha
 have HCl:=Hd (fun w' (h:Below w1.heap.size w1 w')=>show w'.cell? ⟨w.heap.size,1,none⟩ = some (.slice (some ⟨ba,off,none⟩) t.length cap) ∧ w'.cell? ⟨w.heap.size,2,none⟩ = some (.slice b fr.length capb) ∧ w'.cell? ⟨ba,off + k * 6,none⟩ = some (.int .i64 x.kind) ∧ w'.cell? ⟨ba,off + k * 6 + 1,none⟩ = some (.int .i64 x.n) ∧ w'.cell? ⟨ba,off + k * 6 + 2,none⟩ = some (.int .i64 x.at_) ∧ w'.cell? ⟨ba,off + k * 6 + 3,none⟩ = some (.int .i64 x.int) ∧ w'.cell? ⟨ba,off + k * 6 + 4,none⟩ = some (.string x.text) ∧ w'.cell? ⟨ba,off + k * 6 + 5,none⟩ = some (.string x.type) from by
  rw [h.cell hbx,h.cell hbx,h.cell hbl,h.cell hbl,h.cell hbl,h.cell hbl,h.cell hbl,h.cell hbl];exact ⟨y1,y2,x0,x1,x2,x3,x4,x5⟩)
 have HP1:=Hd (HPt.out w1.drew (HS1.out.below (Below.refl _ _).drew).ok)
 have HP2:=Hd (HPt.out (w1.alloc (ndObj ⟨0,0,0,0,⟨#[]⟩,⟨#[]⟩⟩)).drew (HS1.out.below ((Below.refl _ _).alloc (Nat.le_refl _) _).drew).ok)
 have HZ:=Hd (nodeP_new w1 ⟨0,0,0,0,⟨#[]⟩,⟨#[]⟩⟩)
 simp only [ndObj] at HP2 HZ
 go_cut [4,5] (fun s4 s5 wx=>Hid (∃ q,s4 = .pointer (some ⟨q,0,none⟩) ∧ w1.heap.size ≤ q ∧ NodeP wx q x ∧ NatRow wx w1.heap.size s5 P ∧ Below w1.heap.size w1 wx))
 case first=>
  go_region_held3 (fun w'=>w'.cell? ⟨w.heap.size,1,none⟩ = some (.slice (some ⟨ba,off,none⟩) t.length cap) ∧ w'.cell? ⟨w.heap.size,2,none⟩ = some (.slice b fr.length capb) ∧ w'.cell? ⟨ba,off + k * 6,none⟩ = some (.int .i64 x.kind) ∧ w'.cell? ⟨ba,off + k * 6 + 1,none⟩ = some (.int .i64 x.n) ∧ w'.cell? ⟨ba,off + k * 6 + 2,none⟩ = some (.int .i64 x.at_) ∧ w'.cell? ⟨ba,off + k * 6 + 3,none⟩ = some (.int .i64 x.int) ∧ w'.cell? ⟨ba,off + k * 6 + 4,none⟩ = some (.string x.text) ∧ w'.cell? ⟨ba,off + k * 6 + 5,none⟩ = some (.string x.type))
   ((refine HCl.out _ ?_;first | with_reducible exact (Below.refl _ _).drew | with_reducible exact ((Below.refl _ _).alloc (Nat.le_refl _) _).drew | with_reducible exact (HB2).out | (have hq:=HB2;with_reducible exact hq.out.alloc hq.out.size _) | (have hq:=HB2;with_reducible exact below_set6P hq.out (Nat.le_refl _) x)))
   (first
     | (go_at_call 42;(with_reducible refine HP1.out.mono ?_);rintro e w2 ⟨⟨v2,rfl,hrow⟩,hb2⟩;have HB2:=Hd (show Below w1.heap.size w1 w2 from (Below.refl _ _).drew.trans (hb2.mono (Nat.le_refl _)));have HRow:=Hd hrow;clear hb2 hrow)
     | (go_at_call 42;(with_reducible refine HP2.out.mono ?_);rintro e w2 ⟨⟨v2,rfl,hrow⟩,hb2⟩;have HB2:=Hd (show Below w1.heap.size w1 w2 from ((Below.refl _ _).alloc (Nat.le_refl _) _).drew.trans (hb2.mono (by simp)));have hqn:=(show NodeP w2 w1.heap.size _ from (HZ.out.below (Below.refl _ _).drew).below hb2);have HQ:=Hd hqn;have HRw:=Hd hrow;obtain ⟨⟨q0,q1,q2,q3,q4,q5⟩,qf⟩:=six_block hqn;have qf0:=qf 0;have qf1:=qf 1;have qf2:=qf 2;have qf3:=qf 3;have qf4:=qf 4;have qf5:=qf 5;clear hb2 qf hqn hrow))
  all_goals go_wp2_with fail
  all_goals go_meet
  all_goals refine Hd ⟨_,rfl,?_,?_,?_,?_⟩
  ·exact HB2.out.size
  ·exact nodeP_new _ x
  ·exact HRow.out.belowed (ba1 _ _)
  ·exact HB2.out.alloc HB2.out.size _
  ·exact Nat.le_refl _
  ·exact HQ.out.set x
  ·exact natRow_le (natRow_set6 HRw.out (fun e=>by have:=HRw.out;unfold NatRow at this;have:=(this.lt _ e).1;simp at this;omega) x) (by simp)
  ·exact below_set6P HB2.out (Nat.le_refl _) x
 case rest=>
 clear x0 x1 x2 x3 x4 x5 HCl HP1 HP2 HZ HPt HNd y0 y1 y2
 obtain ⟨q,rfl,hq,hnd,hrow,hbx2⟩:=hcut.out
 obtain ⟨pa,pc,rfl,hpc,hN,hf⟩:=natRow_open hrow
 have HX:=Hd (ExprIn.mk' HS1.out hbx2 hnd hq hN hf hpc)
 clear hcut hq hnd hrow hbx2 hpc hN hf HS1
 have HC:=Hd HX.out.st
 obtain ⟨z0,z1,z2⟩:=HC.out.cells
 obtain ⟨⟨n0,n1,n2,n3,n4,n5⟩,_⟩:=six_block (HX.out.node _ (KeepP.refl _ _))
 obtain ⟨kk,n,p,i,s,y⟩:=x
 have he:=HEk.out
 clear HEk
 simp only at he hlen n0 n1 n2 n3 n4 n5
 rcases he with rfl | rfl | rfl | rfl
 ·-- 33
  rw [show arityN 33 = (0,0) from by decide] at hlen
  simp only at hlen
  have hB:stmtB t P (partN t fr) (stmtN t fr) ⟨33,n,p,i,s,y⟩ = [tkM ⟨#[59]⟩]:=rfl
  rw [hB] at hn
  simp only [List.length_cons,List.length_nil] at hn
  go_wp2_with (go_at_call 96;(refine (HC.out.put1 ⟨#[59]⟩ (by first | omega | (simp;omega))).mono ?_);rintro e w4 ⟨rfl,hs⟩;have HD1:=Hd hs;clear hs)
  go_end0
  rw [hB]
  simpa [word_M,word_N,word_K] using HD1.out.end_from HX.out.keep
 ·-- 20
  rw [show arityN 20 = (1,1) from by decide] at hlen
  simp only at hlen
  have hl0:0 < P.length:=by omega
  have hB:stmtB t P (partN t fr) (stmtN t fr) ⟨20,n,p,i,s,y⟩ = atF P (perF t (partN t fr 1)) 0 ++ [tkM ⟨#[59]⟩]:=rfl
  rw [atF_is hl0] at hB
  have HQ:=Hd (HP20.out 0 hl0 ⟨#[59]⟩ rfl)
  rw [hB] at hn
  generalize perF t (partN t fr 1) P[0] ++ [tkM ⟨#[59]⟩] = R at *
  go_upto_region 7 with fail
  obtain ⟨b5,o5,ha,c0⟩:=nats_atP (HX.out.sl wc HC.out.keep).sl hl0
  subst ha
  rw [Nat.add_zero] at c0
  go_still_tail 4,(by kernel_rfl)
  change wpList _ _ _ _ _ wc.drew
  have HE0:=Hd (HC.out.below ((Below.refl _ wc).drew))
  clear c0
  go_wp2_with (go_at_call 155;(refine (HE0.out.call HQ.out (by first | omega | (simp;omega))).mono ?_);rintro e w4 ⟨rfl,hs⟩;have HD1:=Hd hs;clear hs)
  go_end0
  rw [hB]
  simpa [word_M,word_N,word_K] using HD1.out.end_from HX.out.keep
 ·-- 21
  rw [show arityN 21 = (0,4096) from by decide] at hlen
  simp only at hlen
  have hB:stmtB t P (partN t fr) (stmtN t fr) ⟨21,n,p,i,s,y⟩ = tkM ⟨#[123]⟩ :: ((List.range P.length).flatMap (atF P (stmtN t fr)) ++ [tkM ⟨#[125]⟩]):=rfl
  rw [hB] at hn
  simp only [List.length_cons,List.length_append,List.length_nil] at hn
  have HS:=Hd (fun i (hi:i < P.length)=>HSt.out i hi (.inl rfl))
  go_upto_region 10 with (go_at_call 96;(refine (HC.out.put1 ⟨#[123]⟩ (by first | omega | (simp;omega))).mono ?_);rintro e w4 ⟨rfl,hs⟩;have HD1:=Hd hs;clear hs)
  obtain ⟨z0,z1,z2⟩:=HD1.out.cells
  go_wp2_with fail
  go_loopg [45] P.length (fun g v wr=>∃ j:Nat,j ≤ P.length ∧ j + g = P.length ∧ v = .int .i64 (j:Int) ∧ Hid (PrSt pb (some ⟨ba,off,none⟩) cap t b capb fr w.heap.size wc (W ++ [⟨#[123]⟩] ++ ((List.range j).flatMap (atF P (stmtN t fr))).map wordV) wr))
  case atStart=>exact ⟨0,Nat.zero_le _,by omega,rfl,Hd (by simpa using HD1.out)⟩
  case round=>
   obtain ⟨j,hj,hjg,rfl,HSr⟩:=hrel
   have hblk:=blk_le P (stmtN t fr) j P.length hj
   by_cases hlt:j < P.length
   ·obtain ⟨bb,oo,ha,c0⟩:=nats_atP (HX.out.sl wr HSr.out.keep).sl hlt
    subst ha
    have hblk2:=blk_le P (stmtN t fr) (j + 1) P.length hlt
    have hx9:=blk_next P (stmtN t fr) j
    rw [atF_is hlt] at hx9
    have hb9:=congrArg List.length hx9
    rw [List.length_append] at hb9
    have HX9:=Hd hx9
    have HQ:=Hd (HS.out j hlt)
    have hji:(j:Int) < (P.length:Int):=by omega
    obtain ⟨z0,z1,z2⟩:=HSr.out.cells
    generalize P[j] = p9 at *
    generalize stmtN t fr p9 = L9 at *
    clear hx9
    go_wp2_with (go_at_call 119;(refine (HSr.out.call HQ.out (by simp only [List.length_append,List.length_map,List.length_cons,List.length_nil];omega)).mono ?_);rintro e w4 ⟨rfl,hs⟩;have HS3:=Hd hs;clear hs)
    go_roundg (P.length - (j + 1))
    case measure=>omega
    case rel=>exact ⟨j + 1,by omega,by omega,by rw [Int.natCast_add];rfl,Hd (by rw [HX9.out];simpa using HS3.out)⟩
   ·obtain rfl:j = P.length:=by omega
    obtain ⟨z0,z1,z2⟩:=HSr.out.cells
    go_wp2_with (go_at_call 96;(refine (HSr.out.put1 ⟨#[125]⟩ (by simp only [List.length_append,List.length_map,List.length_cons,List.length_nil];omega)).mono ?_);rintro e w4 ⟨rfl,hs⟩;have HS3:=Hd hs;clear hs)
    go_end0
    rw [hB]
    simpa [word_M] using HS3.out.end_from HX.out.keep
 ·-- 22
  rw [show arityN 22 = (0,1) from by decide] at hlen
  simp only at hlen
  have hB:stmtB t P (partN t fr) (stmtN t fr) ⟨22,n,p,i,s,y⟩ = (if i = 1 then [tkK ⟨#[118,111,108,97,116,105,108,101]⟩] else []) ++ (declK y s ++ ((if 0 < P.length then tkM ⟨#[61]⟩ :: atF P (partN t fr 2) 0 else []) ++ [tkM ⟨#[59]⟩])):=rfl
  have HDc:=Hd (declared_puts (pb:=pb) (a:=some ⟨ba,off,none⟩) (b:=b) (t:=t) (fr:=fr) y s)
  generalize declK y s = R at *
  by_cases hi1:i = 1
  ·by_cases hl0:0 < P.length
   ·rw [if_pos hi1] at hB
    have t1:(i == 1) = true:=by simpa using hi1
    rw [if_pos hl0,atF_is hl0] at hB
    have t2:decide ((0:Int) < (P.length:Int)) = true:=decide_eq_true (by omega)
    have HQ:=Hd (HEx.out 2 0 hl0 (.inr (.inr (.inl rfl))))
    rw [hB] at hn
    simp only [List.length_cons,List.length_append,List.length_nil] at hn
    generalize partN t fr 2 P[0] = A at *
    go_upto_region 19 with (go_at_call 96;(refine (HC.out.put1 ⟨#[118,111,108,97,116,105,108,101]⟩ (by first | omega | (simp;omega))).mono ?_);rintro e w4 ⟨rfl,hs⟩;have HD1:=Hd hs;clear hs)
    obtain ⟨z0,z1,z2⟩:=HD1.out.cells
    obtain ⟨⟨n0,n1,n2,n3,n4,n5⟩,_⟩:=six_block (HX.out.node w4 HD1.out.keep)
    go_upto_region 21 with (go_at_call 114;(refine (HD1.out.call HDc.out (by first | omega | (simp;omega))).mono ?_);rintro e w5 ⟨rfl,hs⟩;have HD2:=Hd hs;clear hs)
    obtain ⟨z0,z1,z2⟩:=HD2.out.cells
    go_upto_region 22 with (go_at_call 96;(refine (HD2.out.put1 ⟨#[61]⟩ (by first | omega | (simp;omega))).mono ?_);rintro e w6 ⟨rfl,hs⟩;have HD3:=Hd hs;clear hs)
    obtain ⟨z0,z1,z2⟩:=HD3.out.cells
    obtain ⟨b5,o5,ha,c0⟩:=nats_atP (HX.out.sl w6 HD3.out.keep).sl hl0
    subst ha
    rw [Nat.add_zero] at c0
    go_still_tail 4,(by kernel_rfl)
    change wpList _ _ _ _ _ w6.drew
    have HE3:=Hd (HD3.out.below ((Below.refl _ w6).drew))
    clear c0
    go_upto_region 23 with (go_at_call 98;(refine (HE3.out.call HQ.out (by first | omega | (simp;omega))).mono ?_);rintro e w7 ⟨rfl,hs⟩;have HD4:=Hd hs;clear hs)
    obtain ⟨z0,z1,z2⟩:=HD4.out.cells
    go_wp2_with (go_at_call 96;(refine (HD4.out.put1 ⟨#[59]⟩ (by first | omega | (simp;omega))).mono ?_);rintro e w8 ⟨rfl,hs⟩;have HD5:=Hd hs;clear hs)
    go_end0
    rw [hB]
    simpa [word_M,word_N,word_K] using HD5.out.end_from HX.out.keep
   ·rw [if_pos hi1] at hB
    have t1:(i == 1) = true:=by simpa using hi1
    rw [if_neg hl0] at hB
    have t2:decide ((0:Int) < (P.length:Int)) = false:=decide_eq_false (by omega)
    rw [hB] at hn
    simp only [List.length_cons,List.length_append,List.length_nil] at hn
    go_upto_region 19 with (go_at_call 96;(refine (HC.out.put1 ⟨#[118,111,108,97,116,105,108,101]⟩ (by first | omega | (simp;omega))).mono ?_);rintro e w4 ⟨rfl,hs⟩;have HD1:=Hd hs;clear hs)
    obtain ⟨z0,z1,z2⟩:=HD1.out.cells
    obtain ⟨⟨n0,n1,n2,n3,n4,n5⟩,_⟩:=six_block (HX.out.node w4 HD1.out.keep)
    go_upto_region 23 with (go_at_call 114;(refine (HD1.out.call HDc.out (by first | omega | (simp;omega))).mono ?_);rintro e w5 ⟨rfl,hs⟩;have HD2:=Hd hs;clear hs)
    obtain ⟨z0,z1,z2⟩:=HD2.out.cells
    go_wp2_with (go_at_call 96;(refine (HD2.out.put1 ⟨#[59]⟩ (by first | omega | (simp;omega))).mono ?_);rintro e w6 ⟨rfl,hs⟩;have HD3:=Hd hs;clear hs)
    go_end0
    rw [hB]
    simpa [word_M,word_N,word_K] using HD3.out.end_from HX.out.keep
  ·by_cases hl0:0 < P.length
   ·rw [if_neg hi1] at hB
    have t1:(i == 1) = false:=by simpa using hi1
    rw [if_pos hl0,atF_is hl0] at hB
    have t2:decide ((0:Int) < (P.length:Int)) = true:=decide_eq_true (by omega)
    have HQ:=Hd (HEx.out 2 0 hl0 (.inr (.inr (.inl rfl))))
    rw [hB] at hn
    simp only [List.length_cons,List.length_append,List.length_nil] at hn
    generalize partN t fr 2 P[0] = A at *
    go_upto_region 21 with (go_at_call 114;(refine (HC.out.call HDc.out (by first | omega | (simp;omega))).mono ?_);rintro e w4 ⟨rfl,hs⟩;have HD1:=Hd hs;clear hs)
    obtain ⟨z0,z1,z2⟩:=HD1.out.cells
    go_upto_region 22 with (go_at_call 96;(refine (HD1.out.put1 ⟨#[61]⟩ (by first | omega | (simp;omega))).mono ?_);rintro e w5 ⟨rfl,hs⟩;have HD2:=Hd hs;clear hs)
    obtain ⟨z0,z1,z2⟩:=HD2.out.cells
    obtain ⟨b5,o5,ha,c0⟩:=nats_atP (HX.out.sl w5 HD2.out.keep).sl hl0
    subst ha
    rw [Nat.add_zero] at c0
    go_still_tail 4,(by kernel_rfl)
    change wpList _ _ _ _ _ w5.drew
    have HE2:=Hd (HD2.out.below ((Below.refl _ w5).drew))
    clear c0
    go_upto_region 23 with (go_at_call 98;(refine (HE2.out.call HQ.out (by first | omega | (simp;omega))).mono ?_);rintro e w6 ⟨rfl,hs⟩;have HD3:=Hd hs;clear hs)
    obtain ⟨z0,z1,z2⟩:=HD3.out.cells
    go_wp2_with (go_at_call 96;(refine (HD3.out.put1 ⟨#[59]⟩ (by first | omega | (simp;omega))).mono ?_);rintro e w7 ⟨rfl,hs⟩;have HD4:=Hd hs;clear hs)
    go_end0
    rw [hB]
    simpa [word_M,word_N,word_K] using HD4.out.end_from HX.out.keep
   ·rw [if_neg hi1] at hB
    have t1:(i == 1) = false:=by simpa using hi1
    rw [if_neg hl0] at hB
    have t2:decide ((0:Int) < (P.length:Int)) = false:=decide_eq_false (by omega)
    rw [hB] at hn
    simp only [List.length_cons,List.length_append,List.length_nil] at hn
    go_upto_region 23 with (go_at_call 114;(refine (HC.out.call HDc.out (by first | omega | (simp;omega))).mono ?_);rintro e w4 ⟨rfl,hs⟩;have HD1:=Hd hs;clear hs)
    obtain ⟨z0,z1,z2⟩:=HD1.out.cells
    go_wp2_with (go_at_call 96;(refine (HD1.out.put1 ⟨#[59]⟩ (by first | omega | (simp;omega))).mono ?_);rintro e w5 ⟨rfl,hs⟩;have HD2:=Hd hs;clear hs)
    go_end0
    rw [hB]
    simpa [word_M,word_N,word_K] using HD2.out.end_from HX.out.keep
set_option maxHeartbeats 40000000 in
theorem stmt9_b {pb:Nat} {a b:Option Addr} {cap capb:Nat} {t:List Nd} {fr:List Nat} (hR:Right9 t fr) (k:Nat) (hk:k < t.length) (he:kindAt t k = 23 ∨ kindAt t k = 24 ∨ kindAt t k = 27)
 (HXp:Hid (∀ (due:Int),∀ p ∈ partsAt t fr k,exprK (kindAt t p) = true → Puts pb a t b fr 98 #[prV pb a t.length cap b fr.length capb,.int .i64 (p:Int),.int .i64 due] (partN t fr due p)))
 (HSp:Hid (∀ p ∈ partsAt t fr k,sK (kindAt t p) → Puts pb a t b fr 119 #[prV pb a t.length cap b fr.length capb,.int .i64 (p:Int)] (stmtN t fr p))) :
 Puts pb a t b fr 119 #[prV pb a t.length cap b fr.length capb,.int .i64 (k:Int)] (stmtN t fr k):=by
 intro W w hP hO hn
 have hlen:=parts_len9 hR hk
 obtain ⟨hx,hw⟩:=hR.nd hk
 have hPl:(partsAt t fr k).length ≤ 4096:=by rw [partsAt_is hx,partsE_length];have:=(hR.given.formed.node k _ hx).2.1.le;have:=hR.given.le;omega
 rw [stmtN_eq hR.given.formed] at hn ⊢
 obtain ⟨hlow,hex,hper,hst⟩:=hR.st hk
 rw [ndAt_kind t k] at he hex hper hst
 have HEx:=Hd (fun due i (hi:i < (partsAt t fr k).length) hc=>HXp.out due _ (List.getElem_mem hi) (hex i hi hc))
 have HPr:=Hd (fun i (hi:i < (partsAt t fr k).length) mark (hc:exprK (kindAt t (partsAt t fr k)[i]) = true ∨ kindAt t (partsAt t fr k)[i] = 33)=>perhaps_ok (f:=partN t fr 1) (cap:=cap) (capb:=capb) (pb:=pb) (a:=a) (b:=b) (fr:=fr) (Nat.lt_trans (hlow _ (List.getElem_mem hi)) hk) mark (fun h33=>HXp.out 1 _ (List.getElem_mem hi) (hc.resolve_right h33)))
 have HPe:=Hd (fun i hi mark hc hj=>HPr.out i hi mark (hper i hi hc hj))
 have HP20:=Hd (fun i hi mark hc=>HPr.out i hi mark (.inl (hex i hi (.inl hc))))
 have HSt:=Hd (fun i (hi:i < (partsAt t fr k).length) hc=>HSp.out _ (List.getElem_mem hi) (hst i hi hc))
 clear hlow hex hper hst HPr
 have HPt:=Hd (fun w1 (h:PrOk pb a t b fr w1)=>tparts_ok a cap t b capb fr w1 h.nds.sl h.nats.sl hR.given.le hR.given.formed k hk)
 have HNd:=Hd (fun w1 (h:PrOk pb a t b fr w1)=>nds_at h.nds.sl hk)
 have hxe:t[k] = ndAt t k:=(ndAt_is (List.getElem?_eq_getElem hk)).symm
 rw [hxe] at HNd
 have HS0:=Hd (fun w1 h=>PrSt.start (cap:=cap) (capb:=capb) (w1:=w1) hP hO h)
 generalize ndAt t k = x at *
 generalize partsAt t fr k = P at *
 clear hP hO hxe hx
 have HEk:=Hd he
 clear he HXp HSp
 go_enter Tryz.func119,Tryz.ntmps119
 go_upto_region 1 with fail
 generalize hg1:w.alloc _ = w1 at *
 have HS1:=Hd (HS0.out w1 rfl)
 have hbx:w.heap.size < w1.heap.size:=by rw [← hg1];simp
 clear hg1 HS0
 obtain ⟨y0,y1,y2⟩:=HS1.out.cells
 obtain ⟨ba,off,ha,hbl,x0,x1,x2,x3,x4,x5⟩:=HNd.out w1 HS1.out.ok
 subst ha
 have HCl:=Hd (fun w' (h:Below w1.heap.size w1 w')=>show w'.cell? ⟨w.heap.size,1,none⟩ = some (.slice (some ⟨ba,off,none⟩) t.length cap) ∧ w'.cell? ⟨w.heap.size,2,none⟩ = some (.slice b fr.length capb) ∧ w'.cell? ⟨ba,off + k * 6,none⟩ = some (.int .i64 x.kind) ∧ w'.cell? ⟨ba,off + k * 6 + 1,none⟩ = some (.int .i64 x.n) ∧ w'.cell? ⟨ba,off + k * 6 + 2,none⟩ = some (.int .i64 x.at_) ∧ w'.cell? ⟨ba,off + k * 6 + 3,none⟩ = some (.int .i64 x.int) ∧ w'.cell? ⟨ba,off + k * 6 + 4,none⟩ = some (.string x.text) ∧ w'.cell? ⟨ba,off + k * 6 + 5,none⟩ = some (.string x.type) from by
  rw [h.cell hbx,h.cell hbx,h.cell hbl,h.cell hbl,h.cell hbl,h.cell hbl,h.cell hbl,h.cell hbl];exact ⟨y1,y2,x0,x1,x2,x3,x4,x5⟩)
 have HP1:=Hd (HPt.out w1.drew (HS1.out.below (Below.refl _ _).drew).ok)
 have HP2:=Hd (HPt.out (w1.alloc (ndObj ⟨0,0,0,0,⟨#[]⟩,⟨#[]⟩⟩)).drew (HS1.out.below ((Below.refl _ _).alloc (Nat.le_refl _) _).drew).ok)
 have HZ:=Hd (nodeP_new w1 ⟨0,0,0,0,⟨#[]⟩,⟨#[]⟩⟩)
 simp only [ndObj] at HP2 HZ
 go_cut [4,5] (fun s4 s5 wx=>Hid (∃ q,s4 = .pointer (some ⟨q,0,none⟩) ∧ w1.heap.size ≤ q ∧ NodeP wx q x ∧ NatRow wx w1.heap.size s5 P ∧ Below w1.heap.size w1 wx))
 case first=>
  go_region_held3 (fun w'=>w'.cell? ⟨w.heap.size,1,none⟩ = some (.slice (some ⟨ba,off,none⟩) t.length cap) ∧ w'.cell? ⟨w.heap.size,2,none⟩ = some (.slice b fr.length capb) ∧ w'.cell? ⟨ba,off + k * 6,none⟩ = some (.int .i64 x.kind) ∧ w'.cell? ⟨ba,off + k * 6 + 1,none⟩ = some (.int .i64 x.n) ∧ w'.cell? ⟨ba,off + k * 6 + 2,none⟩ = some (.int .i64 x.at_) ∧ w'.cell? ⟨ba,off + k * 6 + 3,none⟩ = some (.int .i64 x.int) ∧ w'.cell? ⟨ba,off + k * 6 + 4,none⟩ = some (.string x.text) ∧ w'.cell? ⟨ba,off + k * 6 + 5,none⟩ = some (.string x.type))
   ((refine HCl.out _ ?_;first | with_reducible exact (Below.refl _ _).drew | with_reducible exact ((Below.refl _ _).alloc (Nat.le_refl _) _).drew | with_reducible exact (HB2).out | (have hq:=HB2;with_reducible exact hq.out.alloc hq.out.size _) | (have hq:=HB2;with_reducible exact below_set6P hq.out (Nat.le_refl _) x)))
   (first
     | (go_at_call 42;(with_reducible refine HP1.out.mono ?_);rintro e w2 ⟨⟨v2,rfl,hrow⟩,hb2⟩;have HB2:=Hd (show Below w1.heap.size w1 w2 from (Below.refl _ _).drew.trans (hb2.mono (Nat.le_refl _)));have HRow:=Hd hrow;clear hb2 hrow)
     | (go_at_call 42;(with_reducible refine HP2.out.mono ?_);rintro e w2 ⟨⟨v2,rfl,hrow⟩,hb2⟩;have HB2:=Hd (show Below w1.heap.size w1 w2 from ((Below.refl _ _).alloc (Nat.le_refl _) _).drew.trans (hb2.mono (by simp)));have hqn:=(show NodeP w2 w1.heap.size _ from (HZ.out.below (Below.refl _ _).drew).below hb2);have HQ:=Hd hqn;have HRw:=Hd hrow;obtain ⟨⟨q0,q1,q2,q3,q4,q5⟩,qf⟩:=six_block hqn;have qf0:=qf 0;have qf1:=qf 1;have qf2:=qf 2;have qf3:=qf 3;have qf4:=qf 4;have qf5:=qf 5;clear hb2 qf hqn hrow))
  all_goals go_wp2_with fail
  all_goals go_meet
  all_goals refine Hd ⟨_,rfl,?_,?_,?_,?_⟩
  ·exact HB2.out.size
  ·exact nodeP_new _ x
  ·exact HRow.out.belowed (ba1 _ _)
  ·exact HB2.out.alloc HB2.out.size _
  ·exact Nat.le_refl _
  ·exact HQ.out.set x
  ·exact natRow_le (natRow_set6 HRw.out (fun e=>by have:=HRw.out;unfold NatRow at this;have:=(this.lt _ e).1;simp at this;omega) x) (by simp)
  ·exact below_set6P HB2.out (Nat.le_refl _) x
 case rest=>
 clear x0 x1 x2 x3 x4 x5 HCl HP1 HP2 HZ HPt HNd y0 y1 y2
 obtain ⟨q,rfl,hq,hnd,hrow,hbx2⟩:=hcut.out
 obtain ⟨pa,pc,rfl,hpc,hN,hf⟩:=natRow_open hrow
 have HX:=Hd (ExprIn.mk' HS1.out hbx2 hnd hq hN hf hpc)
 clear hcut hq hnd hrow hbx2 hpc hN hf HS1
 have HC:=Hd HX.out.st
 obtain ⟨z0,z1,z2⟩:=HC.out.cells
 obtain ⟨⟨n0,n1,n2,n3,n4,n5⟩,_⟩:=six_block (HX.out.node _ (KeepP.refl _ _))
 obtain ⟨kk,n,p,i,s,y⟩:=x
 have he:=HEk.out
 clear HEk
 simp only at he hlen n0 n1 n2 n3 n4 n5
 rcases he with rfl | rfl | rfl
 ·-- 23
  rw [show arityN 23 = (2,3) from by decide] at hlen
  simp only at hlen
  have hl0:0 < P.length:=by omega
  have hl1:1 < P.length:=by omega
  have hm1:(1:Int) < (P.length:Int):=by omega
  have hB:stmtB t P (partN t fr) (stmtN t fr) ⟨23,n,p,i,s,y⟩ = askF P (partN t fr 1) ⟨#[105,102]⟩ 0 ++ (atF P (stmtN t fr) 1 ++ (if P.length = 3 then tkK ⟨#[101,108,115,101]⟩ :: atF P (stmtN t fr) 2 else [])):=rfl
  rw [askF_is hl0,atF_is hl1] at hB
  have HQ:=Hd (asked_ok ⟨#[105,102]⟩ (HEx.out 1 0 hl0 (.inr (.inr (.inr (.inl ⟨.inl rfl,rfl⟩))))))
  have HS1:=Hd (HSt.out 1 hl1 (.inr (.inr (.inl ⟨.inl rfl,by decide⟩))))
  by_cases h3:P.length = 3
  ·have hl2:2 < P.length:=by omega
   have hm2:(2:Int) < (P.length:Int):=by omega
   rw [if_pos h3,atF_is hl2] at hB
   have HS2:=Hd (HSt.out 2 hl2 (.inr (.inr (.inl ⟨.inl rfl,by decide⟩))))
   have t1:((P.length:Int) == 3) = true:=by simp;omega
   rw [hB] at hn
   generalize partN t fr 1 P[0] = A at *
   generalize stmtN t fr P[1] = R at *
   generalize stmtN t fr P[2] = R2 at *
   simp only [List.length_cons,List.length_append,List.length_nil] at hn
   clear h3
   go_upto_region 25 with fail
   obtain ⟨b5,o5,ha,c0⟩:=nats_atP (HX.out.sl wc HC.out.keep).sl hl0
   subst ha
   rw [Nat.add_zero] at c0
   go_still_tail 4,(by kernel_rfl)
   change wpList _ _ _ _ _ wc.drew
   have HE0:=Hd (HC.out.below ((Below.refl _ wc).drew))
   clear c0
   go_upto_region 26 with (go_at_call 156;(refine (HE0.out.call HQ.out (by first | omega | (simp;omega))).mono ?_);rintro e w4 ⟨rfl,hs⟩;have HD1:=Hd hs;clear hs)
   obtain ⟨z0,z1,z2⟩:=HD1.out.cells
   obtain ⟨b6,o6,ha,c1⟩:=nats_atP (HX.out.sl w4 HD1.out.keep).sl hl1
   simp only [Option.some.injEq,Addr.mk.injEq] at ha
   obtain ⟨rfl,rfl,_⟩:=ha
   go_still_tail 4,(by kernel_rfl)
   change wpList _ _ _ _ _ w4.drew
   have HE1:=Hd (HD1.out.below ((Below.refl _ w4).drew))
   clear c1
   go_upto_region 28 with (go_at_call 119;(refine (HE1.out.call HS1.out (by first | omega | (simp;omega))).mono ?_);rintro e w5 ⟨rfl,hs⟩;have HD2:=Hd hs;clear hs)
   obtain ⟨z0,z1,z2⟩:=HD2.out.cells
   go_upto_region 29 with (go_at_call 96;(refine (HD2.out.put1 ⟨#[101,108,115,101]⟩ (by first | omega | (simp;omega))).mono ?_);rintro e w6 ⟨rfl,hs⟩;have HD3:=Hd hs;clear hs)
   obtain ⟨z0,z1,z2⟩:=HD3.out.cells
   obtain ⟨b6,o6,ha,c2⟩:=nats_atP (HX.out.sl w6 HD3.out.keep).sl hl2
   simp only [Option.some.injEq,Addr.mk.injEq] at ha
   obtain ⟨rfl,rfl,_⟩:=ha
   go_still_tail 4,(by kernel_rfl)
   change wpList _ _ _ _ _ w6.drew
   have HE3:=Hd (HD3.out.below ((Below.refl _ w6).drew))
   clear c2
   go_wp2_with (go_at_call 119;(refine (HE3.out.call HS2.out (by first | omega | (simp;omega))).mono ?_);rintro e w7 ⟨rfl,hs⟩;have HD4:=Hd hs;clear hs)
   go_end0
   rw [hB]
   simpa [word_M,word_N,word_K] using HD4.out.end_from HX.out.keep
  ·rw [if_neg h3] at hB
   have t1:((P.length:Int) == 3) = false:=by simp;omega
   rw [hB] at hn
   generalize partN t fr 1 P[0] = A at *
   generalize stmtN t fr P[1] = R at *
   simp only [List.length_cons,List.length_append,List.length_nil] at hn
   clear h3
   go_upto_region 25 with fail
   obtain ⟨b5,o5,ha,c0⟩:=nats_atP (HX.out.sl wc HC.out.keep).sl hl0
   subst ha
   rw [Nat.add_zero] at c0
   go_still_tail 4,(by kernel_rfl)
   change wpList _ _ _ _ _ wc.drew
   have HE0:=Hd (HC.out.below ((Below.refl _ wc).drew))
   clear c0
   go_upto_region 26 with (go_at_call 156;(refine (HE0.out.call HQ.out (by first | omega | (simp;omega))).mono ?_);rintro e w4 ⟨rfl,hs⟩;have HD1:=Hd hs;clear hs)
   obtain ⟨z0,z1,z2⟩:=HD1.out.cells
   obtain ⟨b6,o6,ha,c1⟩:=nats_atP (HX.out.sl w4 HD1.out.keep).sl hl1
   simp only [Option.some.injEq,Addr.mk.injEq] at ha
   obtain ⟨rfl,rfl,_⟩:=ha
   go_still_tail 4,(by kernel_rfl)
   change wpList _ _ _ _ _ w4.drew
   have HE1:=Hd (HD1.out.below ((Below.refl _ w4).drew))
   clear c1
   go_wp2_with (go_at_call 119;(refine (HE1.out.call HS1.out (by first | omega | (simp;omega))).mono ?_);rintro e w5 ⟨rfl,hs⟩;have HD2:=Hd hs;clear hs)
   go_end0
   rw [hB]
   simpa [word_M,word_N,word_K] using HD2.out.end_from HX.out.keep
 ·-- 24
  rw [show arityN 24 = (2,2) from by decide] at hlen
  simp only at hlen
  have hl0:0 < P.length:=by omega
  have hl1:1 < P.length:=by omega
  have hm1:(1:Int) < (P.length:Int):=by omega
  have hB:stmtB t P (partN t fr) (stmtN t fr) ⟨24,n,p,i,s,y⟩ = askF P (partN t fr 1) ⟨#[119,104,105,108,101]⟩ 0 ++ atF P (stmtN t fr) 1:=rfl
  rw [askF_is hl0,atF_is hl1] at hB
  have HQ:=Hd (asked_ok ⟨#[119,104,105,108,101]⟩ (HEx.out 1 0 hl0 (.inr (.inr (.inr (.inl ⟨.inr (.inl rfl),rfl⟩))))))
  have HS1:=Hd (HSt.out 1 hl1 (.inr (.inr (.inl ⟨.inr (.inl rfl),by decide⟩))))
  rw [hB] at hn
  generalize partN t fr 1 P[0] = A at *
  generalize stmtN t fr P[1] = R at *
  simp only [List.length_cons,List.length_append,List.length_nil] at hn
  go_upto_region 31 with fail
  obtain ⟨b5,o5,ha,c0⟩:=nats_atP (HX.out.sl wc HC.out.keep).sl hl0
  subst ha
  rw [Nat.add_zero] at c0
  go_still_tail 4,(by kernel_rfl)
  change wpList _ _ _ _ _ wc.drew
  have HE0:=Hd (HC.out.below ((Below.refl _ wc).drew))
  clear c0
  go_upto_region 32 with (go_at_call 156;(refine (HE0.out.call HQ.out (by first | omega | (simp;omega))).mono ?_);rintro e w4 ⟨rfl,hs⟩;have HD1:=Hd hs;clear hs)
  obtain ⟨z0,z1,z2⟩:=HD1.out.cells
  obtain ⟨b6,o6,ha,c1⟩:=nats_atP (HX.out.sl w4 HD1.out.keep).sl hl1
  simp only [Option.some.injEq,Addr.mk.injEq] at ha
  obtain ⟨rfl,rfl,_⟩:=ha
  go_still_tail 4,(by kernel_rfl)
  change wpList _ _ _ _ _ w4.drew
  have HE1:=Hd (HD1.out.below ((Below.refl _ w4).drew))
  clear c1
  go_wp2_with (go_at_call 119;(refine (HE1.out.call HS1.out (by first | omega | (simp;omega))).mono ?_);rintro e w5 ⟨rfl,hs⟩;have HD2:=Hd hs;clear hs)
  go_end0
  rw [hB]
  simpa [word_M,word_N,word_K] using HD2.out.end_from HX.out.keep
 ·-- 27
  rw [show arityN 27 = (2,2) from by decide] at hlen
  simp only at hlen
  have hl0:0 < P.length:=by omega
  have hl1:1 < P.length:=by omega
  have hm1:(1:Int) < (P.length:Int):=by omega
  have hB:stmtB t P (partN t fr) (stmtN t fr) ⟨27,n,p,i,s,y⟩ = askF P (partN t fr 1) ⟨#[115,119,105,116,99,104]⟩ 0 ++ atF P (stmtN t fr) 1:=rfl
  rw [askF_is hl0,atF_is hl1] at hB
  have HQ:=Hd (asked_ok ⟨#[115,119,105,116,99,104]⟩ (HEx.out 1 0 hl0 (.inr (.inr (.inr (.inl ⟨.inr (.inr (.inl rfl)),rfl⟩))))))
  have HS1:=Hd (HSt.out 1 hl1 (.inr (.inr (.inl ⟨.inr (.inr (.inl rfl)),by decide⟩))))
  rw [hB] at hn
  generalize partN t fr 1 P[0] = A at *
  generalize stmtN t fr P[1] = R at *
  simp only [List.length_cons,List.length_append,List.length_nil] at hn
  go_upto_region 34 with fail
  obtain ⟨b5,o5,ha,c0⟩:=nats_atP (HX.out.sl wc HC.out.keep).sl hl0
  subst ha
  rw [Nat.add_zero] at c0
  go_still_tail 4,(by kernel_rfl)
  change wpList _ _ _ _ _ wc.drew
  have HE0:=Hd (HC.out.below ((Below.refl _ wc).drew))
  clear c0
  go_upto_region 35 with (go_at_call 156;(refine (HE0.out.call HQ.out (by first | omega | (simp;omega))).mono ?_);rintro e w4 ⟨rfl,hs⟩;have HD1:=Hd hs;clear hs)
  obtain ⟨z0,z1,z2⟩:=HD1.out.cells
  obtain ⟨b6,o6,ha,c1⟩:=nats_atP (HX.out.sl w4 HD1.out.keep).sl hl1
  simp only [Option.some.injEq,Addr.mk.injEq] at ha
  obtain ⟨rfl,rfl,_⟩:=ha
  go_still_tail 4,(by kernel_rfl)
  change wpList _ _ _ _ _ w4.drew
  have HE1:=Hd (HD1.out.below ((Below.refl _ w4).drew))
  clear c1
  go_wp2_with (go_at_call 119;(refine (HE1.out.call HS1.out (by first | omega | (simp;omega))).mono ?_);rintro e w5 ⟨rfl,hs⟩;have HD2:=Hd hs;clear hs)
  go_end0
  rw [hB]
  simpa [word_M,word_N,word_K] using HD2.out.end_from HX.out.keep
end Go.Proofs.YtkokdafkjjcgoaaGreatDoor
