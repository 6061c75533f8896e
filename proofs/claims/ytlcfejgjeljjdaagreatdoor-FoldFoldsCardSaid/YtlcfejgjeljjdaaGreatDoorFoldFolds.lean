/- A tree in which constants are reckoned ahead is the document -/
import Derived.Test.YtlcfejgjeljjdaaGreatDoorFoldRJ
import Derived.Test.YtlcfejgjeljjdaaGreatDoorMg26
import Derived.Test.YtlcfejgjeljjdaaGreatDoorMg22
namespace Go.Proofs.YtlcfejgjeljjdaaGreatDoor
open Go.RowKit
section
variable (a:Option Addr) (cap:Nat) (t:List Nd) (l:Option Addr) (lc:Nat) (L:List Sr) (mv:List Value) (w:World) (hE:TE w) (hI:IsNds w.heap.size w a t) (hOk:∀ x ∈ t,NdOk x) (hz:t.length * 64 ≤ 140737488351232) (hcap:t.length ≤ cap) (hnil:a = none → t = [] ∧ cap = 0) (hS:IsSrs w.heap.size w l L mv) (hlc:L.length ≤ lc) (hcm:lc ≤ maxLen)
 (hzs:L.length * 40 ≤ 140737488351232) (hm:∀ x ∈ L,x.mems.length * 32 ≤ 140737488351232) (hnils:∀ v ∈ mv,∀ n c,v = .slice none n c → n = 0 ∧ c = 0)
include hE hI hOk hz hcap hnil hS hlc hcm hzs hm hnils
omit hcap in
set_option maxRecDepth 100000 in
set_option maxHeartbeats 8000000 in
theorem foldFolds_n (hc:startN t L ≠ 0):Calls Tryz.prog 5 #[.slice a t.length cap,.slice l L.length lc] w fun e w'=>e = .returned (.bool true) ∧ Below w.heap.size w w':=by
 have HE:=Hd hE
 have HA:=Hd (show RAt w a t l L mv from ⟨hI,hS⟩)
 have HCo:=Hd (copyTree_ok a cap t w hI hz hnil)
 have HLe:=Hd (fun w' (h:RAt w' a t l L mv)=>lent12_ok l lc L mv w' h.srs hzs hm hnils)
 have K1:=Hd (fun a1 c1 l1 d1 mv1 w1 (hE:TE w1) (hN:IsNds w1.heap.size w1 a1 t) (hS:IsSrs w1.heap.size w1 l1 L mv1)=>foldC_n a1 c1 t l1 d1 L mv1 w1 hE hN hOk hz hS hc)
 have K2:=Hd (fun w1 (h:RAt w1 a t l L mv)=>rfold_n a cap t l lc L mv w1 h hOk hz hlc hcm hc)
 have K3:=Hd (fun w1=>(show Calls Tryz.prog 11 #[.slice none 0 0,.slice none 0 0] w1 _ from sameTree_ok none none 0 0 [] w1 isSl_nil isSl_nil (by simp)))
 have K4:=Hd (fun a1 c1 w1 (hN:IsNds w1.heap.size w1 a1 t) (h:RAt w1 a t l L mv)=>sameTree_ok a1 a c1 cap t w1 hN h.nodes hz)
 have HW:=Hd (fun w1 (hE:TE w1)=>works12_ok w1 hE)
 unfold LentEnd at HLe
 generalize startN t L = c at *
 clear hI hE hOk hnil hS hcm hm hnils hc
 go_enter Tryz.func5,Tryz.ntmps5
 go_upto_region 6 with (first
  | (go_at_call 6;(with_reducible refine HCo.out.mono ?_);rintro e w1 ⟨⟨v,rfl,hr⟩,hb⟩;obtain ⟨a1,c1,rfl,hc1,_,hN,_⟩:=hr.opened;have HB1:=Hd hb;have HN1:=Hd hN;have L1:=Hd (HLe.out w1 (HA.out.below hb));clear hr hb hN)
  | (go_at_call 7;(with_reducible refine L1.out.mono ?_);rintro e w2 ⟨⟨l1,d1,mv1,rfl,hs⟩,hb⟩;have HB2:=Ht HB1 hb;have HN2:=Hd ((HN1.out.below hb (Nat.le_refl _)).mono hb.size);have L2:=Hd (K1.out a1 c1 l1 d1 mv1 w2 (HE.out.below HB2.out) HN2.out hs);clear hs hb)
  | (go_at_call 19;(with_reducible refine L2.out.mono ?_);rintro e w3 ⟨rfl,hb⟩;have HB3:=Ht HB2 hb;have HN3:=Hd ((HN2.out.below hb (Nat.le_refl _)).mono hb.size);have L3:=Hd (K2.out w3 (HA.out.below HB3.out));clear hb)
  | (go_at_call 20;(with_reducible refine L3.out.mono ?_);rintro e w4 ⟨rfl,hb⟩;have HB4:=Ht HB3 hb;have HN4:=Hd ((HN3.out.below hb (Nat.le_refl _)).mono hb.size);have L4:=Hd (K3.out w4);clear hb)
  | (go_at_call 11;(with_reducible refine L4.out.mono ?_);rintro e w5 ⟨rfl,hb⟩;have HB5:=Ht HB4 hb;have HN5:=Hd ((HN4.out.below hb (Nat.le_refl _)).mono hb.size);have L5:=Hd (K4.out a1 c1 w5 HN5.out (HA.out.below HB5.out));clear hb))
 go_wp2_with fail
 go_loopg [39] 0 (fun m v39 wy=>m = 0 ∧ v39 = .int .i64 0 ∧ wy = w5)
 case atStart=>exact ⟨rfl,rfl,by trivial⟩
 case round=>
  obtain ⟨rfl,rfl,rfl⟩:=hrel
  go_wp2_with (first
   | (go_at_call 11;(with_reducible refine L5.out.mono ?_);rintro e w6 ⟨rfl,hb⟩;have HB6:=Ht HB5 hb;have L6:=Hd (HW.out w6 (HE.out.below HB6.out));clear hb)
   | (go_at_call 12;(with_reducible refine L6.out.mono ?_);rintro e w7 ⟨rfl,hb⟩;have HB7:=Ht HB6 hb;clear hb))
  go_ret
  exact ⟨rfl,HB7.out⟩
set_option maxRecDepth 100000 in
set_option maxHeartbeats 8000000 in
theorem foldFolds_0 (hc:startN t L = 0):Calls Tryz.prog 5 #[.slice a t.length cap,.slice l L.length lc] w fun e w'=>e = .returned (.bool true) ∧ Below w.heap.size w w':=by
 have HE:=Hd hE
 have HA:=Hd (show RAt w a t l L mv from ⟨hI,hS⟩)
 have HCo:=Hd (copyTree_ok a cap t w hI hz hnil)
 have HLe:=Hd (fun w' (h:RAt w' a t l L mv)=>lent12_ok l lc L mv w' h.srs hzs hm hnils)
 have K1:=Hd (fun a1 c1 l1 d1 mv1 w1 (hE:TE w1) (hN:IsNds w1.heap.size w1 a1 t) (hS:IsSrs w1.heap.size w1 l1 L mv1) (h:t.length ≤ c1)=>foldC_0 a1 c1 t l1 d1 L mv1 w1 hE hN hOk hz hS h hc)
 have K2:=Hd (fun w1 (h:RAt w1 a t l L mv)=>rfold_0 a cap t l lc L mv w1 h hOk hz hlc hcm hcap hc)
 have K4:=Hd (fun a1 c1 w1 (hN:IsNds w1.heap.size w1 a1 t) (h:RAt w1 a t l L mv)=>sameTree_ok a1 a c1 cap t w1 hN h.nodes hz)
 have HW:=Hd (fun w1 (hE:TE w1)=>works12_ok w1 hE)
 unfold LentEnd at HLe
 have hle:=(folded_start hc).2.2.2.1
 generalize (foldT L (trOf t)).flat = R at *
 have hRz:R.length * 64 ≤ 140737488351232:=by omega
 have K3:=Hd (fun x1 y1 x2 y2 w1 (hX:IsNds w1.heap.size w1 x1 R) (hY:IsNds w1.heap.size w1 x2 R)=>sameTree_ok x1 x2 y1 y2 R w1 hX hY hRz)
 clear hI hE hOk hnil hS hcm hm hnils hc hle
 go_enter Tryz.func5,Tryz.ntmps5
 go_upto_region 6 with (first
  | (go_at_call 6;(with_reducible refine HCo.out.mono ?_);rintro e w1 ⟨⟨v,rfl,hr⟩,hb⟩;obtain ⟨a1,c1,rfl,hc1,_,hN,_⟩:=hr.opened;have HB1:=Hd hb;have HN1:=Hd hN;have L1:=Hd (HLe.out w1 (HA.out.below hb));clear hr hb hN)
  | (go_at_call 7;(with_reducible refine L1.out.mono ?_);rintro e w2 ⟨⟨l1,d1,mv1,rfl,hs⟩,hb⟩;have HB2:=Ht HB1 hb;have HN2:=Hd ((HN1.out.below hb (Nat.le_refl _)).mono hb.size);have L2:=Hd (K1.out a1 c1 l1 d1 mv1 w2 (HE.out.below HB2.out) HN2.out hs hc1);clear hs hb)
  | (go_at_call 19;(with_reducible refine L2.out.mono ?_);rintro e w3 ⟨⟨v3,rfl,hr⟩,hb⟩;obtain ⟨x1,y1,rfl,_,_,hX,_⟩:=hr.opened;have HX3:=Hd hX;have HR3:=Hd (show SomeRow w3 w2.heap.size (.slice x1 R.length y1) R.length from ⟨_,hr⟩);have HB23:=Hd hb;have HB3:=Ht HB2 hb;have L3:=Hd (K2.out w3 (HA.out.below HB3.out));clear hb hr hX)
  | (go_at_call 20;(with_reducible refine L3.out.mono ?_);rintro e w4 ⟨⟨v4,rfl,hr⟩,hb⟩;obtain ⟨x2,y2,rfl,_,_,hY,_⟩:=hr.opened;have HB4:=Ht HB3 hb;have HB24:=Ht HB23 hb;have HR4:=Hd (show SomeRow w4 w2.heap.size (.slice x1 R.length y1) R.length from ⟨_,HR3.out.choose_spec.belowed hb⟩);have L4:=Hd (K3.out x1 y1 x2 y2 w4 ((HX3.out.below hb (Nat.le_refl _)).mono hb.size) hY);clear hb hr hY)
  | (go_at_call 11;(with_reducible refine L4.out.mono ?_);rintro e w5 ⟨rfl,hb⟩;have HB25:=Ht HB24 hb;have HR5:=Hd (show SomeRow w5 w2.heap.size (.slice x1 R.length y1) R.length from ⟨_,HR4.out.choose_spec.belowed hb⟩);clear hb))
 go_wp2_with fail
 go_loopg [39] R.length (fun m v39 wy=>∃ k:Nat,k ≤ R.length ∧ k + m = R.length ∧ v39 = .int .i64 (k:Int) ∧ Hid (SomeRow wy w2.heap.size (.slice x1 R.length y1) R.length) ∧ Hid (Below w2.heap.size w2 wy))
 case atStart=>exact ⟨0,by omega,by omega,rfl,HR5,HB25⟩
 case round=>
  obtain ⟨k,hk,hkm,rfl,HR,HB⟩:=hrel
  by_cases hlt:k < R.length
  ·obtain ⟨g,hg,hge,hcl,hfz⟩:=HR.out.at_ hlt
   subst hg
   obtain ⟨u0,q0⟩:=hcl 0 (by omega)
   obtain ⟨u1,q1⟩:=hcl 1 (by omega)
   obtain ⟨u2,q2⟩:=hcl 2 (by omega)
   obtain ⟨u3,q3⟩:=hcl 3 (by omega)
   obtain ⟨u4,q4⟩:=hcl 4 (by omega)
   obtain ⟨u5,q5⟩:=hcl 5 (by omega)
   rw [Nat.add_zero] at q0
   clear hcl
   go_wp2_with fail
   go_roundg (R.length - (k + 1))
   case measure=>omega
   case rel=>exact ⟨k + 1,by omega,by omega,by rw [Int.natCast_add];rfl,Hd (HR.out.set.set.set.set.set.set),Hd (ba_set (ba_set (ba_set (ba_set (ba_set (ba_set HB.out hge _ _) hge _ _) hge _ _) hge _ _) hge _ _) hge _ _)⟩
  ·obtain rfl:k = R.length:=by omega
   have HBr:=Hd (HB2.out.trans (HB.out.mono HB2.out.size))
   have L5:=Hd (K4.out a1 c1 wr ((HN2.out.below HB.out (Nat.le_refl _)).mono HB.out.size) (HA.out.below HBr.out))
   go_wp2_with (first
    | (go_at_call 11;(with_reducible refine L5.out.mono ?_);rintro e w6 ⟨rfl,hb⟩;have HB6:=Ht HBr hb;have L6:=Hd (HW.out w6 (HE.out.below HB6.out));clear hb)
    | (go_at_call 12;(with_reducible refine L6.out.mono ?_);rintro e w7 ⟨rfl,hb⟩;have HB7:=Ht HB6 hb;clear hb))
   go_ret
   exact ⟨rfl,HB7.out⟩
theorem foldFolds_ok:Calls Tryz.prog 5 #[.slice a t.length cap,.slice l L.length lc] w fun e w'=>e = .returned (.bool true) ∧ Below w.heap.size w w':=by
 by_cases hc:startN t L = 0
 ·exact foldFolds_0 a cap t l lc L mv w hE hI hOk hz hcap hnil hS hlc hcm hzs hm hnils hc
 ·exact foldFolds_n a cap t l lc L mv w hE hI hOk hz hnil hS hlc hcm hzs hm hnils hc
end
end Go.Proofs.YtlcfejgjeljjdaaGreatDoor
