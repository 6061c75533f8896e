/- What any tree comes to as a constant expression is as the do -/
import Derived.Test.YtlcfejgjeljjdaaGreatDoorFoldRJ
import Derived.Test.YtlcfejgjeljjdaaGreatDoorMg26
import Derived.Test.YtlcfejgjeljjdaaGreatDoorMg22
namespace Go.Proofs.YtlcfejgjeljjdaaGreatDoor
open Go.RowKit
set_option maxRecDepth 100000 in
set_option maxHeartbeats 8000000 in
theorem foldEvals_ok (a:Option Addr) (cap:Nat) (t:List Nd) (l:Option Addr) (lc:Nat) (L:List Sr) (mv:List Value) (w:World) (hE:TE w) (hI:IsNds w.heap.size w a t) (hOk:∀ x ∈ t,NdOk x) (hz:t.length * 64 ≤ 140737488351232) (hnil:a = none → t = [] ∧ cap = 0) (hS:IsSrs w.heap.size w l L mv) (hlc:L.length ≤ lc) (hcm:lc ≤ maxLen)
 (hzs:L.length * 40 ≤ 140737488351232) (hm:∀ x ∈ L,x.mems.length * 32 ≤ 140737488351232) (hnils:∀ v ∈ mv,∀ n c,v = .slice none n c → n = 0 ∧ c = 0) :
 Calls Tryz.prog 3 #[.slice a t.length cap,.slice l L.length lc] w fun e w'=>e = .returned (.bool true) ∧ Below w.heap.size w w':=by
 have HE:=Hd hE
 have HA:=Hd (show RAt w a t l L mv from ⟨hI,hS⟩)
 have HCo:=Hd (copyTree_ok a cap t w hI hz hnil)
 have HLe:=Hd (fun w' (h:RAt w' a t l L mv)=>lent12_ok l lc L mv w' h.srs hzs hm hnils)
 have k1:=fun a1 c1 l1 d1 mv1 w1 (hE:TE w1) (hN:IsNds w1.heap.size w1 a1 t) (hS:IsSrs w1.heap.size w1 l1 L mv1)=>evalC_ok a1 c1 t l1 d1 L mv1 w1 hE hN hOk hz hS
 have k2:=fun w1 (h:RAt w1 a t l L mv)=>reval_ok a cap t l lc L mv w1 h hOk hz hlc hcm
 have k3:=fun a1 c1 l1 d1 mv1 w1 (hE:TE w1) (hN:IsNds w1.heap.size w1 a1 t) (hS:IsSrs w1.heap.size w1 l1 L mv1)=>isC_ok a1 c1 t l1 d1 L mv1 w1 hE hN hOk hz hS
 have K4:=Hd (fun a1 c1 w1 (hN:IsNds w1.heap.size w1 a1 t) (h:RAt w1 a t l L mv)=>sameTree_ok a1 a c1 cap t w1 hN h.nodes hz)
 have HW:=Hd (fun w1 (hE:TE w1)=>works12_ok w1 hE)
 unfold trip at k1 k2
 unfold LentEnd at HLe
 generalize evalX t L = p at *
 obtain ⟨p1,p2,p3⟩:=p
 simp only at k1 k2 k3
 have K1:=Hd k1
 have K2:=Hd k2
 have K3:=Hd k3
 clear hI hE hOk hnil hS hcm hm hnils k1 k2 k3
 go_enter Tryz.func3,Tryz.ntmps3
 go_upto_region 4 with (first
  | (go_at_call 6;(with_reducible refine HCo.out.mono ?_);rintro e w1 ⟨⟨v,rfl,hr⟩,hb⟩;obtain ⟨a1,c1,rfl,_,_,hN,_⟩:=hr.opened;have HB1:=Hd hb;have HN1:=Hd hN;have L1:=Hd (HLe.out w1 (HA.out.below hb));clear hr hb hN)
  | (go_at_call 7;(with_reducible refine L1.out.mono ?_);rintro e w2 ⟨⟨l1,d1,mv1,rfl,hs⟩,hb⟩;have HB2:=Ht HB1 hb;have HN2:=Hd ((HN1.out.below hb (Nat.le_refl _)).mono hb.size);have HS2:=Hd hs;have L2:=Hd (K1.out a1 c1 l1 d1 mv1 w2 (HE.out.below HB2.out) HN2.out hs);clear hs hb)
  | (go_at_call 8;(with_reducible refine L2.out.mono ?_);rintro e w3 ⟨rfl,hb⟩;have HB3:=Ht HB2 hb;have HN3:=Hd ((HN2.out.below hb (Nat.le_refl _)).mono hb.size);have HS3:=Hd ((HS2.out.below hb).mono hb.size);have L3:=Hd (K2.out w3 (HA.out.below HB3.out));clear hb)
  | (go_at_call 9;(with_reducible refine L3.out.mono ?_);rintro e w4 ⟨rfl,hb⟩;have HB4:=Ht HB3 hb;have HN4:=Hd ((HN3.out.below hb (Nat.le_refl _)).mono hb.size);have HS4:=Hd ((HS3.out.below hb).mono hb.size);have L4:=Hd (K3.out a1 c1 l1 d1 mv1 w4 (HE.out.below HB4.out) HN4.out HS4.out);clear hb))
 go_wp2_with (first
  | (go_at_call 10;(with_reducible refine L4.out.mono ?_);rintro e w5 ⟨rfl,hb⟩;have HB5:=Ht HB4 hb;have HN5:=Hd ((HN4.out.below hb (Nat.le_refl _)).mono hb.size);have L5:=Hd (K4.out a1 c1 w5 HN5.out (HA.out.below HB5.out));clear hb)
  | (go_at_call 11;(with_reducible refine L5.out.mono ?_);rintro e w6 ⟨rfl,hb⟩;have HB6:=Ht HB5 hb;have L6:=Hd (HW.out w6 (HE.out.below HB6.out));clear hb)
  | (go_at_call 12;(with_reducible refine L6.out.mono ?_);rintro e w7 ⟨rfl,hb⟩;have HB7:=Ht HB6 hb;clear hb))
 go_ret
 exact ⟨rfl,HB7.out⟩
end Go.Proofs.YtlcfejgjeljjdaaGreatDoor
