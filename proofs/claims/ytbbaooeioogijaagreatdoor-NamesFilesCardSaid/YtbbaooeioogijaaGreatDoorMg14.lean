/- Whether a node's parts fit: the program. · How many parts a kind has: both texts. · Whether a node's parts fit: the reference. -/
import Derived.Test.YtbbaooeioogijaaGreatDoorMg13
import Derived.Test.YtbbaooeioogijaaGreatDoorMg4
import Derived.Test.YtbbaooeioogijaaGreatDoorChecked
import Derived.Test.YtbbaooeioogijaaGreatDoorMg1
import Derived.Deep.CutBlock
namespace Go.Proofs.YtbbaooeioogijaaGreatDoor
open Go.RowKit
theorem parts_num {t:List Nd} {fr:List Nat} (hG:Given t fr) {k n:Nat} (hk:k < t.length) {c:Int} (h:kindAt t k = c) (ha:arityN c = ((n:Int),(n:Int))):(partsAt t fr k).length = n:=by
 obtain ⟨hlo,hhi,_⟩:=well_parts (hG.well k _ (List.getElem?_eq_getElem hk))
 rw [← kindAt_is (List.getElem?_eq_getElem hk),h,ha] at hlo hhi
 rw [partsAt_is (List.getElem?_eq_getElem hk),partsE_length]
 simp only at hlo hhi
 omega
theorem parts_two {t:List Nd} {fr:List Nat} (hG:Given t fr) {k:Nat} (hk:k < t.length) (h:kindAt t k = 23):2 ≤ (partsAt t fr k).length ∧ (partsAt t fr k).length ≤ 3:=by
 obtain ⟨hlo,hhi,_⟩:=well_parts (hG.well k _ (List.getElem?_eq_getElem hk))
 rw [← kindAt_is (List.getElem?_eq_getElem hk),h,show arityN 23 = (2,3) by decide] at hlo hhi
 rw [partsAt_is (List.getElem?_eq_getElem hk),partsE_length]
 simp only at hlo hhi
 omega
set_option maxRecDepth 100000 in
set_option maxHeartbeats 8000000 in
theorem fits_ok (a:Option Addr) (cap:Nat) (t:List Nd) (b:Option Addr) (capb:Nat) (fr:List Nat) (hG:Given t fr) (k:Nat) (hk:k < t.length) (w:World) (hW:WholeAt w a b t fr) :
 Calls Tryz.prog 72 #[.agg #[.slice a t.length cap,.slice b fr.length capb],.int .i64 (k:Int)] w (OpenEnd (fitsN t fr k) w):=by
 have HPt:=Hd (fun w (hW:WholeAt w a b t fr)=>tparts_ok a cap t b capb fr w hW.nds hW.nats hG.le hG.formed k hk)
 have HW:=Hd hW
 have HOp:=Hd (fun p (hp:p < t.length) w hW=>open_ok a cap t b capb fr hG (p + 1) p (Nat.lt_succ_self p) hp w hW)
 obtain ⟨ba,off,ha,hbl,x0⟩:=kind_at hW hk
 subst ha
 have HLt:=Hd (fun p (h:p ∈ partsAt t fr k)=>hG.formed.parts_lt h)
 have hl:=hG.le
 have hpl:(partsAt t fr k).length ≤ 4096:=by rw [partsAt_is (List.getElem?_eq_getElem hk),partsE_length];have:=(hG.formed.node k _ (List.getElem?_eq_getElem hk)).2.1.le;omega
 have H25:=Hd (show kindAt t k = 25 → (partsAt t fr k).length = 2 from fun h=>parts_num hG hk h (by decide))
 have H23:=Hd (show kindAt t k = 23 → 2 ≤ (partsAt t fr k).length ∧ (partsAt t fr k).length ≤ 3 from fun h=>parts_two hG hk h)
 have hfit:=Hd (show fitsN t fr k = (mayAll t (kindAt t k) 0 (partsAt t fr k) && (decide (kindAt t k ≠ 23) || (decide ((partsAt t fr k).length < 3) || !openN t fr ((partsAt t fr k).getD 1 0)))) from rfl)
 generalize fitsN t fr k = fit at *
 generalize hkd:kindAt t k = kd at *
 have HKd:=Hd hkd
 clear hW hkd
 generalize partsAt t fr k = P at *
 go_enter Tryz.func72,Tryz.ntmps72
 go_upto_region 1 with fail
 have hxw:(w.alloc (.cells #[.slice (some ⟨ba,off,none⟩) t.length cap,.slice b fr.length capb] 126)).heap[w.heap.size]? = some (.cells #[.slice (some ⟨ba,off,none⟩) t.length cap,.slice b fr.length capb] 126 (0,0)):=heap_alloc_new _ _
 have hbw:Below w.heap.size w (w.alloc (.cells #[.slice (some ⟨ba,off,none⟩) t.length cap,.slice b fr.length capb] 126)):=ba1 _ _
 generalize w.alloc (.cells #[.slice (some ⟨ba,off,none⟩) t.length cap,.slice b fr.length capb] 126) = w0 at *
 have hzw:=lt_of_heap hxw
 obtain ⟨⟨z0,z1⟩,_⟩:=two_block hxw
 have HBW:=Hd hbw
 have HW0:=Hd (HW.out.below hbw)
 have v0:=x0
 rw [← hbw.cell hbl] at v0
 have hbl0:=Nat.lt_of_lt_of_le hbl hbw.size
 clear hxw hbw
 go_upto_region 2 with (go_at_call 74;(with_reducible refine (HPt.out _ HW0.out).mono ?_);rintro e w1 ⟨⟨v,rfl,hrow⟩,hb1⟩;obtain ⟨pa,pc,rfl,hP,_⟩:=hrow.is;have HP:=Hd hP;have HB1:=Ht HBW hb1;have y0:=v0;rw [← hb1.cell hbl0] at y0;have y1:=z0;have y2:=z1;rw [← hb1.cell hzw] at y1 y2;have hz1:=Nat.lt_of_lt_of_le hzw hb1.size;clear hrow hb1 hP)
 go_wp2_with fail
 go_loopg [13] P.length (fun m v13 wy=>∃ i:Nat,i ≤ P.length ∧ i + m = P.length ∧ v13 = .int .i64 (i:Int) ∧ Hid (∀ (j p:Nat),j < i → P[j]? = some p → mayN kd j (kindAt t p) = true) ∧ Hid (Below w1.heap.size w1 wy))
 case atStart=>exact ⟨0,by omega,by omega,rfl,fun j p h=>by omega,Below.refl _ _⟩
 case round=>
  obtain ⟨i,hi,him,rfl,HY,HB⟩:=hrel
  by_cases hlt:i < P.length
  ·have hplt:=HLt.out _ (List.getElem_mem hlt)
   obtain ⟨pb,po,hpa,hpb,c2⟩:=nats_at HP.out hlt
   subst hpa
   obtain ⟨q,hq⟩:∃ q,q = P[i]:=⟨_,rfl⟩
   rw [← hq] at hplt c2
   have HQ:=Hd hq
   clear hq
   obtain ⟨ba2,off2,hba,_,x2⟩:=kind_at HW.out (show q < t.length by omega)
   obtain ⟨rfl,rfl⟩:ba2 = ba ∧ off2 = off:=by simpa using hba.symm
   clear hba
   rw [← (HB1.out.trans (HB.out.mono HB1.out.size)).cell hbl] at x2
   rw [← HB.out.cell (Nat.lt_of_lt_of_le hbl HB1.out.size)] at y0
   rw [← HB.out.cell hz1] at y1 y2
   rw [← HB.out.cell hpb] at c2
   have HM:=Hd (fun w=>may_ok kd (kindAt t q) i w (fun h=>by have:=H25.out h;omega))
   rcases hm:mayN kd i (kindAt t q) with _ | _
   ·have hv:=Hd (show fit = false by rw [hfit.out,mayAll_no (j:=i) (p:=q) (by rw [List.getElem?_eq_getElem hlt,HQ.out]) (by rw [Nat.zero_add];exact hm)];rfl)
    rw [hm] at HM
    clear hm
    generalize kindAt t q = kq at *
    go_upto_region 5 with fail
    go_quiet ((go_at_call 101;exact Calls.quiet_of_same (HM.out _)))
    go_wp2_with fail
    go_ret
    rw [hv.out]
    exact ⟨rfl,blw_drewN (HB1.out.trans (HB.out.mono HB1.out.size)) _⟩
   ·have HY2:=Hd (show ∀ (j p:Nat),j < i + 1 → P[j]? = some p → mayN kd j (kindAt t p) = true from fun j p hj hp=>by
     rcases Nat.lt_or_ge j i with h' | h'
     ·exact HY.out j p h' hp
     ·obtain rfl:j = i:=by omega
      rw [List.getElem?_eq_getElem hlt,← HQ.out] at hp
      obtain rfl:=Option.some.inj hp
      exact hm)
    rw [hm] at HM
    clear hm HY
    generalize kindAt t q = kq at *
    go_upto_region 5 with fail
    go_quiet ((go_at_call 101;exact Calls.quiet_of_same (HM.out _)))
    go_wp2_with fail
    go_roundg (P.length - (i + 1))
    case measure=>omega
    case rel=>exact ⟨i + 1,by omega,by omega,by rw [Int.natCast_add];rfl,HY2,Hd (blw_drewN HB.out _)⟩
  ·obtain rfl:i = P.length:=by omega
   have hall:=Hd (show mayAll t kd 0 P = true from mayAll_yes fun j p hp=>by rw [Nat.zero_add];exact HY.out j p (List.getElem?_eq_some_iff.1 hp).1 hp)
   clear HY
   rw [← HB.out.cell (Nat.lt_of_lt_of_le hbl HB1.out.size)] at y0
   rw [← HB.out.cell hz1] at y1 y2
   by_cases h23:kd = 23
   ·have g23:(kd == 23) = true:=by rw [h23];rfl
    have g23n:(kd != 23) = false:=by rw [h23];rfl
    have hP:=H23.out h23
    by_cases h3:P.length = 2
    ·have t2:decide ((P.length:Int) < 3) = true:=by simp;omega
     have hv:=Hd (show fit = true by rw [hfit.out,hall.out];simp [h3])
     go_upto_region 8 with fail
     go_quiet (fail)
     go_wp2_with fail
     go_ret
     rw [hv.out]
     exact ⟨rfl,blw_drewN (HB1.out.trans (HB.out.mono HB1.out.size)) _⟩
    ·have h3:P.length = 3:=by omega
     have t2:decide ((P.length:Int) < 3) = false:=by simp;omega
     have hP1:1 < P.length:=by omega
     have hplt:=HLt.out _ (List.getElem_mem hP1)
     obtain ⟨pb,po,hpa,hpb,c2⟩:=nats_at HP.out hP1
     subst hpa
     have hv:=Hd (show fit = !openN t fr P[1] by rw [hfit.out,hall.out,(getD_mem hP1).1];simp [h23,h3])
     obtain ⟨q,hq⟩:∃ q,q = P[1]:=⟨_,rfl⟩
     rw [← hq] at hplt c2 hv
     clear hq h23 hall
     rw [← HB.out.cell hpb] at c2
     have HBr:=Hd (HB1.out.trans (HB.out.mono HB1.out.size))
     have hz2:=Nat.lt_of_lt_of_le hz1 HB.out.size
     have hpb2:=Nat.lt_of_lt_of_le hpb HB.out.size
     have hbar:=Nat.lt_of_lt_of_le hbl HBr.out.size
     have HIH:=Hd (fun w' (hb:Below wr.heap.size wr w')=>HOp.out q (by omega) w' (HW.out.below (HBr.out.trans (hb.mono HBr.out.size))))
     go_upto_region 8 with fail
     have HCl:=Hd (show ∀ w',Below wr.heap.size wr w' → w'.cell? ⟨w.heap.size,0,none⟩ = some (.slice (some ⟨ba,off,none⟩) t.length cap) ∧ w'.cell? ⟨w.heap.size,1,none⟩ = some (.slice b fr.length capb) ∧ w'.cell? ⟨pb,po + 1,none⟩ = some (.int .i64 (q:Int)) ∧ w'.cell? ⟨ba,off + k * 6,none⟩ = some (.int .i64 kd) from fun w' hb=>⟨by rw [hb.cell hz2];exact y1,by rw [hb.cell hz2];exact y2,by rw [hb.cell hpb2];exact c2,by rw [hb.cell hbar];exact y0⟩)
     go_region_held3 (fun w'=>w'.cell? ⟨w.heap.size,0,none⟩ = some (.slice (some ⟨ba,off,none⟩) t.length cap) ∧ w'.cell? ⟨w.heap.size,1,none⟩ = some (.slice b fr.length capb) ∧ w'.cell? ⟨pb,po + 1,none⟩ = some (.int .i64 (q:Int)) ∧ w'.cell? ⟨ba,off + k * 6,none⟩ = some (.int .i64 kd)) (first | (refine ⟨?_,?_,?_,?_⟩ <;> assumption) | exact HCl.out _ ((Below.refl _ _).drew) | exact HCl.out _ HB9.out) ((go_at_call 102;(with_reducible refine (HIH.out _ (Below.refl _ _).drew).mono ?_);rintro e w2 ⟨rfl,hb2⟩;have HB9:=Hd (((Below.refl wr.heap.size wr).drew).trans (hb2.mono (Nat.le_refl _)));have HB2:=Hd (HBr.out.trans (HB9.out.mono HBr.out.size));obtain ⟨u1,u2,u3,u4⟩:=HCl.out _ HB9.out;clear hb2))
     go_wp2_with fail
     go_ret
     rw [hv.out]
     exact ⟨by simp,HB2.out⟩
   ·have g23:(kd == 23) = false:=by simpa using h23
    have g23n:(kd != 23) = true:=by rw [bne,g23];rfl
    have hv:=Hd (show fit = true by rw [hfit.out,hall.out];simp [h23])
    go_upto_region 8 with fail
    go_quiet (fail)
    go_wp2_with fail
    go_ret
    rw [hv.out]
    exact ⟨rfl,blw_drewN (HB1.out.trans (HB.out.mono HB1.out.size)) _⟩
end Go.Proofs.YtbbaooeioogijaaGreatDoor
namespace Go.Proofs.YtbbaooeioogijaaGreatDoor
open Go.RowKit
theorem kinds (k:Int):k = 1 ∨ k = 2 ∨ k = 3 ∨ k = 17 ∨ k = 30 ∨ k = 31 ∨ k = 33 ∨ k = 4 ∨ k = 5 ∨ k = 6 ∨ k = 13 ∨ k = 14 ∨ k = 15 ∨ k = 16 ∨ k = 20 ∨ k = 29 ∨ k = 7 ∨ k = 8 ∨ k = 10 ∨ k = 12 ∨ k = 24 ∨ k = 25 ∨ k = 27 ∨ k = 28 ∨ k = 9 ∨ k = 26 ∨ k = 11 ∨ k = 21 ∨ k = 22 ∨ k = 32 ∨ k = 23 ∨ (k ≠ 1 ∧ k ≠ 2 ∧ k ≠ 3 ∧ k ≠ 17 ∧ k ≠ 30 ∧ k ≠ 31 ∧ k ≠ 33 ∧ k ≠ 4 ∧ k ≠ 5 ∧ k ≠ 6 ∧ k ≠ 13 ∧ k ≠ 14 ∧ k ≠ 15 ∧ k ≠ 16 ∧ k ≠ 20 ∧ k ≠ 29 ∧ k ≠ 7 ∧ k ≠ 8 ∧ k ≠ 10 ∧ k ≠ 12 ∧ k ≠ 24 ∧ k ≠ 25 ∧ k ≠ 27 ∧ k ≠ 28 ∧ k ≠ 9 ∧ k ≠ 26 ∧ k ≠ 11 ∧ k ≠ 21 ∧ k ≠ 22 ∧ k ≠ 32 ∧ k ≠ 23):=by omega
theorem arity_no {k:Int} (h:k ≠ 1 ∧ k ≠ 2 ∧ k ≠ 3 ∧ k ≠ 17 ∧ k ≠ 30 ∧ k ≠ 31 ∧ k ≠ 33 ∧ k ≠ 4 ∧ k ≠ 5 ∧ k ≠ 6 ∧ k ≠ 13 ∧ k ≠ 14 ∧ k ≠ 15 ∧ k ≠ 16 ∧ k ≠ 20 ∧ k ≠ 29 ∧ k ≠ 7 ∧ k ≠ 8 ∧ k ≠ 10 ∧ k ≠ 12 ∧ k ≠ 24 ∧ k ≠ 25 ∧ k ≠ 27 ∧ k ≠ 28 ∧ k ≠ 9 ∧ k ≠ 26 ∧ k ≠ 11 ∧ k ≠ 21 ∧ k ≠ 22 ∧ k ≠ 32 ∧ k ≠ 23):arityN k = (-1,-1):=by
 unfold arityN
 rw [if_neg (by omega),if_neg (by omega),if_neg (by omega),if_neg (by omega),if_neg (by omega),if_neg (by omega),if_neg (by omega),if_neg (by omega),if_neg (by omega)]
set_option maxHeartbeats 8000000 in
theorem arity_ok (k:Int) (w:World):Calls Tryz.prog 97 #[.int .i64 k] w fun e w'=>e = .returned (.tuple #[.int .i64 (arityN k).1,.int .i64 (arityN k).2]) ∧ w' = w:=by
 rcases kinds k with rfl | rfl | rfl | rfl | rfl | rfl | rfl | rfl | rfl | rfl | rfl | rfl | rfl | rfl | rfl | rfl | rfl | rfl | rfl | rfl | rfl | rfl | rfl | rfl | rfl | rfl | rfl | rfl | rfl | rfl | rfl | h
 case' inr.inr.inr.inr.inr.inr.inr.inr.inr.inr.inr.inr.inr.inr.inr.inr.inr.inr.inr.inr.inr.inr.inr.inr.inr.inr.inr.inr.inr.inr.inr=>
  rw [arity_no h]
  obtain ⟨n1,n2,n3,n17,n30,n31,n33,n4,n5,n6,n13,n14,n15,n16,n20,n29,n7,n8,n10,n12,n24,n25,n27,n28,n9,n26,n11,n21,n22,n32,n23⟩:=h
  have t1:(k == 1) = false:=by rw [beq_eq_false_iff_ne];exact n1
  have t2:(k == 2) = false:=by rw [beq_eq_false_iff_ne];exact n2
  have t3:(k == 3) = false:=by rw [beq_eq_false_iff_ne];exact n3
  have t4:(k == 4) = false:=by rw [beq_eq_false_iff_ne];exact n4
  have t5:(k == 5) = false:=by rw [beq_eq_false_iff_ne];exact n5
  have t6:(k == 6) = false:=by rw [beq_eq_false_iff_ne];exact n6
  have t7:(k == 7) = false:=by rw [beq_eq_false_iff_ne];exact n7
  have t8:(k == 8) = false:=by rw [beq_eq_false_iff_ne];exact n8
  have t9:(k == 9) = false:=by rw [beq_eq_false_iff_ne];exact n9
  have t10:(k == 10) = false:=by rw [beq_eq_false_iff_ne];exact n10
  have t11:(k == 11) = false:=by rw [beq_eq_false_iff_ne];exact n11
  have t12:(k == 12) = false:=by rw [beq_eq_false_iff_ne];exact n12
  have t13:(k == 13) = false:=by rw [beq_eq_false_iff_ne];exact n13
  have t14:(k == 14) = false:=by rw [beq_eq_false_iff_ne];exact n14
  have t15:(k == 15) = false:=by rw [beq_eq_false_iff_ne];exact n15
  have t16:(k == 16) = false:=by rw [beq_eq_false_iff_ne];exact n16
  have t17:(k == 17) = false:=by rw [beq_eq_false_iff_ne];exact n17
  have t20:(k == 20) = false:=by rw [beq_eq_false_iff_ne];exact n20
  have t21:(k == 21) = false:=by rw [beq_eq_false_iff_ne];exact n21
  have t22:(k == 22) = false:=by rw [beq_eq_false_iff_ne];exact n22
  have t23:(k == 23) = false:=by rw [beq_eq_false_iff_ne];exact n23
  have t24:(k == 24) = false:=by rw [beq_eq_false_iff_ne];exact n24
  have t25:(k == 25) = false:=by rw [beq_eq_false_iff_ne];exact n25
  have t26:(k == 26) = false:=by rw [beq_eq_false_iff_ne];exact n26
  have t27:(k == 27) = false:=by rw [beq_eq_false_iff_ne];exact n27
  have t28:(k == 28) = false:=by rw [beq_eq_false_iff_ne];exact n28
  have t29:(k == 29) = false:=by rw [beq_eq_false_iff_ne];exact n29
  have t30:(k == 30) = false:=by rw [beq_eq_false_iff_ne];exact n30
  have t31:(k == 31) = false:=by rw [beq_eq_false_iff_ne];exact n31
  have t32:(k == 32) = false:=by rw [beq_eq_false_iff_ne];exact n32
  have t33:(k == 33) = false:=by rw [beq_eq_false_iff_ne];exact n33
  clear n1 n2 n3 n17 n30 n31 n33 n4 n5 n6 n13 n14 n15 n16 n20 n29 n7 n8 n10 n12 n24 n25 n27 n28 n9 n26 n11 n21 n22 n32 n23
 all_goals
  go_enter Tryz.func97,Tryz.ntmps97
  go_wp2_with fail
  go_ret2
  exact ⟨by rfl,rfl⟩
set_option maxHeartbeats 8000000 in
theorem refArity_ok (k:Int) (w:World):Calls Tryz.prog 103 #[.int .i64 k] w fun e w'=>e = .returned (.tuple #[.int .i64 (arityN k).1,.int .i64 (arityN k).2]) ∧ w' = w:=by
 rcases kinds k with rfl | rfl | rfl | rfl | rfl | rfl | rfl | rfl | rfl | rfl | rfl | rfl | rfl | rfl | rfl | rfl | rfl | rfl | rfl | rfl | rfl | rfl | rfl | rfl | rfl | rfl | rfl | rfl | rfl | rfl | rfl | h
 case' inr.inr.inr.inr.inr.inr.inr.inr.inr.inr.inr.inr.inr.inr.inr.inr.inr.inr.inr.inr.inr.inr.inr.inr.inr.inr.inr.inr.inr.inr.inr=>
  rw [arity_no h]
  obtain ⟨n1,n2,n3,n17,n30,n31,n33,n4,n5,n6,n13,n14,n15,n16,n20,n29,n7,n8,n10,n12,n24,n25,n27,n28,n9,n26,n11,n21,n22,n32,n23⟩:=h
  have t1:(k == 1) = false:=by rw [beq_eq_false_iff_ne];exact n1
  have t2:(k == 2) = false:=by rw [beq_eq_false_iff_ne];exact n2
  have t3:(k == 3) = false:=by rw [beq_eq_false_iff_ne];exact n3
  have t4:(k == 4) = false:=by rw [beq_eq_false_iff_ne];exact n4
  have t5:(k == 5) = false:=by rw [beq_eq_false_iff_ne];exact n5
  have t6:(k == 6) = false:=by rw [beq_eq_false_iff_ne];exact n6
  have t7:(k == 7) = false:=by rw [beq_eq_false_iff_ne];exact n7
  have t8:(k == 8) = false:=by rw [beq_eq_false_iff_ne];exact n8
  have t9:(k == 9) = false:=by rw [beq_eq_false_iff_ne];exact n9
  have t10:(k == 10) = false:=by rw [beq_eq_false_iff_ne];exact n10
  have t11:(k == 11) = false:=by rw [beq_eq_false_iff_ne];exact n11
  have t12:(k == 12) = false:=by rw [beq_eq_false_iff_ne];exact n12
  have t13:(k == 13) = false:=by rw [beq_eq_false_iff_ne];exact n13
  have t14:(k == 14) = false:=by rw [beq_eq_false_iff_ne];exact n14
  have t15:(k == 15) = false:=by rw [beq_eq_false_iff_ne];exact n15
  have t16:(k == 16) = false:=by rw [beq_eq_false_iff_ne];exact n16
  have t17:(k == 17) = false:=by rw [beq_eq_false_iff_ne];exact n17
  have t20:(k == 20) = false:=by rw [beq_eq_false_iff_ne];exact n20
  have t21:(k == 21) = false:=by rw [beq_eq_false_iff_ne];exact n21
  have t22:(k == 22) = false:=by rw [beq_eq_false_iff_ne];exact n22
  have t23:(k == 23) = false:=by rw [beq_eq_false_iff_ne];exact n23
  have t24:(k == 24) = false:=by rw [beq_eq_false_iff_ne];exact n24
  have t25:(k == 25) = false:=by rw [beq_eq_false_iff_ne];exact n25
  have t26:(k == 26) = false:=by rw [beq_eq_false_iff_ne];exact n26
  have t27:(k == 27) = false:=by rw [beq_eq_false_iff_ne];exact n27
  have t28:(k == 28) = false:=by rw [beq_eq_false_iff_ne];exact n28
  have t29:(k == 29) = false:=by rw [beq_eq_false_iff_ne];exact n29
  have t30:(k == 30) = false:=by rw [beq_eq_false_iff_ne];exact n30
  have t31:(k == 31) = false:=by rw [beq_eq_false_iff_ne];exact n31
  have t32:(k == 32) = false:=by rw [beq_eq_false_iff_ne];exact n32
  have t33:(k == 33) = false:=by rw [beq_eq_false_iff_ne];exact n33
  clear n1 n2 n3 n17 n30 n31 n33 n4 n5 n6 n13 n14 n15 n16 n20 n29 n7 n8 n10 n12 n24 n25 n27 n28 n9 n26 n11 n21 n22 n32 n23
 all_goals
  go_enter Tryz.func103,Tryz.ntmps103
  go_wp2_with fail
  go_ret2
  exact ⟨by rfl,rfl⟩
end Go.Proofs.YtbbaooeioogijaaGreatDoor
namespace Go.Proofs.YtbbaooeioogijaaGreatDoor
open Go.RowKit
def headK (k:Int):Bool:=decide (exprK k = true ∨ k = 20 ∨ k = 32 ∨ k = 22)
theorem has_parts {k:Int} (h:0 < (arityN k).2):headK k = true ∨ (headK k = false ∧ (k = 21 ∨ k = 23 ∨ k = 24 ∨ k = 25 ∨ k = 26 ∨ k = 27 ∨ k = 28 ∨ k = 29)):=by
 rcases kinds k with rfl | rfl | rfl | rfl | rfl | rfl | rfl | rfl | rfl | rfl | rfl | rfl | rfl | rfl | rfl | rfl | rfl | rfl | rfl | rfl | rfl | rfl | rfl | rfl | rfl | rfl | rfl | rfl | rfl | rfl | rfl | h'
 case inr.inr.inr.inr.inr.inr.inr.inr.inr.inr.inr.inr.inr.inr.inr.inr.inr.inr.inr.inr.inr.inr.inr.inr.inr.inr.inr.inr.inr.inr.inr=>rw [arity_no h'] at h;simp at h
 all_goals (revert h;decide)
theorem parts_most {t:List Nd} {fr:List Nat} (hG:Given t fr) {k:Nat} (hk:k < t.length):((partsAt t fr k).length:Int) ≤ (arityN (kindAt t k)).2:=by
 obtain ⟨hlo,hhi,h0⟩:=well_parts (hG.well k _ (List.getElem?_eq_getElem hk))
 rw [kindAt_is (List.getElem?_eq_getElem hk),partsAt_is (List.getElem?_eq_getElem hk),partsE_length]
 omega
theorem may_d9 {k q:Int} {i:Nat} (h:headK k = true):mayN k i q = exprK q:=by
 unfold headK at h
 unfold mayN
 rw [if_pos (by simpa using h)]
theorem may_n23 {q:Int} {i:Nat}:mayN 23 i q = (if i = 0 then exprK q else stmtK q):=rfl
theorem may_n24 {q:Int} {i:Nat}:mayN 24 i q = (if i = 0 then exprK q else stmtK q):=rfl
theorem may_n25 {q:Int} {i:Nat}:mayN 25 i q = (if i = 0 then stmtK q else exprK q):=rfl
theorem may_n26 {q:Int} {i:Nat}:mayN 26 i q = (if i = 0 then decide (q = 20 ∨ q = 22 ∨ q = 33) else if i = 3 then stmtK q else exprK q || decide (q = 33)):=rfl
theorem may_n27 {q:Int} {i:Nat}:mayN 27 i q = (if i = 0 then exprK q else stmtK q):=rfl
theorem may_n28 {q:Int} {i:Nat}:mayN 28 i q = (if i = 0 then exprK q else stmtK q):=rfl
set_option maxRecDepth 100000 in
set_option maxHeartbeats 16000000 in
theorem refFit_ok (a:Option Addr) (cap:Nat) (t:List Nd) (b:Option Addr) (capb:Nat) (fr:List Nat) (hG:Given t fr) (k:Nat) (hk:k < t.length) (w:World) (hW:WholeAt w a b t fr) :
 Calls Tryz.prog 76 #[.slice a t.length cap,.slice b fr.length capb,.int .i64 (k:Int)] w (OpenEnd (fitsN t fr k) w):=by
 have HPt:=Hd (refTparts_ok a cap t b capb fr w hW.nds hW.nats hG.le hG.formed k hk)
 have HW:=Hd hW
 have HOp:=Hd (fun p (hp:p < t.length) w hW=>refOpen_ok a cap t b capb fr hG (p + 1) p (Nat.lt_succ_self p) hp w hW)
 obtain ⟨ba,off,ha,hbl,x0⟩:=kind_at hW hk
 subst ha
 have HLt:=Hd (fun p (h:p ∈ partsAt t fr k)=>hG.formed.parts_lt h)
 have hl:=hG.le
 have hpl:(partsAt t fr k).length ≤ 4096:=by rw [partsAt_is (List.getElem?_eq_getElem hk),partsE_length];have:=(hG.formed.node k _ (List.getElem?_eq_getElem hk)).2.1.le;omega
 have H25:=Hd (show kindAt t k = 25 → (partsAt t fr k).length = 2 from fun h=>parts_num hG hk h (by decide))
 have H26:=Hd (show kindAt t k = 26 → (partsAt t fr k).length = 4 from fun h=>parts_num hG hk h (by decide))
 have H23:=Hd (show kindAt t k = 23 → 2 ≤ (partsAt t fr k).length ∧ (partsAt t fr k).length ≤ 3 from fun h=>parts_two hG hk h)
 have HMo:=Hd (parts_most hG hk)
 have hfit:=Hd (show fitsN t fr k = (mayAll t (kindAt t k) 0 (partsAt t fr k) && (decide (kindAt t k ≠ 23) || (decide ((partsAt t fr k).length < 3) || !openN t fr ((partsAt t fr k).getD 1 0)))) from rfl)
 have HEx:=Hd (fun k w=>refExpr_ok k w)
 have HSt:=Hd (fun k w=>refStmt_ok k w)
 generalize fitsN t fr k = fit at *
 generalize hkd:kindAt t k = kd at *
 have HKd:=Hd hkd
 clear hW hkd
 generalize partsAt t fr k = P at *
 go_enter Tryz.func76,Tryz.ntmps76
 go_upto_region 2 with (go_at_call 78;(with_reducible refine HPt.out.mono ?_);rintro e w1 ⟨⟨v,rfl,hrow⟩,hb1⟩;obtain ⟨pa,pc,rfl,hP,_⟩:=hrow.is;have HP:=Hd hP;have HB1:=Hd hb1;have y0:=x0;rw [← hb1.cell hbl] at y0;have hbl1:=Nat.lt_of_lt_of_le hbl hb1.size;clear hrow hb1 hP)
 go_wp2_with fail
 go_loop [9] (fun v9=>∃ i:Nat,i ≤ P.length ∧ v9 = .int .i64 (i:Int) ∧ Hid (∀ (j p:Nat),j < i → P[j]? = some p → mayN kd j (kindAt t p) = true)) (fun v9=>P.length - (intOf v9).toNat)
 case atStart=>exact ⟨0,by omega,rfl,fun j p h=>by omega⟩
 case round=>
  obtain ⟨i,hi,rfl,HY⟩:=hrel
  by_cases hlt:i < P.length
  ·have hplt:=HLt.out _ (List.getElem_mem hlt)
   obtain ⟨pb,po,hpa,hpb,c2⟩:=nats_at HP.out hlt
   subst hpa
   obtain ⟨q,hq⟩:∃ q,q = P[i]:=⟨_,rfl⟩
   rw [← hq] at hplt c2
   have HQ:=Hd hq
   clear hq
   obtain ⟨ba2,off2,hba,_,x2⟩:=kind_at HW.out (show q < t.length by omega)
   obtain ⟨rfl,rfl⟩:ba2 = ba ∧ off2 = off:=by simpa using hba.symm
   clear hba
   rw [← HB1.out.cell hbl] at x2
   have hcls:=has_parts (k:=kd) (by have:=HMo.out;omega)
   obtain ⟨kq,hkq⟩:∃ kq,kq = kindAt t q:=⟨_,rfl⟩
   rw [← hkq] at x2
   have HKq:=Hd hkq
   clear hkq
   go_upto_block 2 with fail
   go_cut [11] (fun v wx=>∃ m:Bool,v = .bool m ∧ Hid (m = mayN kd i kq) ∧ wx = w1)
   case first=>
    go_upto_region 9 with fail
    go_cut [37] (fun v wx=>v = .bool (headK kd) ∧ wx = w1)
    case first=>
     have HE1:=Hd (HEx.out kd)
     have hh:=Hd (show headK kd = (exprK kd || ((kd == 20) || ((kd == 32) || (kd == 22)))) by unfold headK;rw [Bool.eq_iff_iff];simp)
     clear hcls
     generalize headK kd = hd at *
     rcases hx:exprK kd with _ | _
     case false=>
      rw [hx] at hh HE1
      rcases h20:(kd == 20) with _ | _
      case true=>
       rw [h20] at hh
       go_wp2_with (go_at_call 61;(with_reducible refine (HE1.out _).mono ?_);rintro e w2 ⟨rfl,hw2⟩;subst w2)
       go_meet
       exact ⟨by rw [hh.out];simp,rfl⟩
      case false=>
       rw [h20] at hh
       rcases h32:(kd == 32) with _ | _
       case true=>
        rw [h32] at hh
        go_wp2_with (go_at_call 61;(with_reducible refine (HE1.out _).mono ?_);rintro e w2 ⟨rfl,hw2⟩;subst w2)
        go_meet
        exact ⟨by rw [hh.out];simp,rfl⟩
       case false=>
        rw [h32] at hh
        rcases h22:(kd == 22) with _ | _
        all_goals
         rw [h22] at hh
         go_wp2_with (go_at_call 61;(with_reducible refine (HE1.out _).mono ?_);rintro e w2 ⟨rfl,hw2⟩;subst w2)
         go_meet
         exact ⟨by rw [hh.out];simp,rfl⟩
     case true=>
      rw [hx] at hh HE1
      go_wp2_with (go_at_call 61;(with_reducible refine (HE1.out _).mono ?_);rintro e w2 ⟨rfl,hw2⟩;subst w2)
      go_meet
      exact ⟨by rw [hh.out];simp,rfl⟩
    case rest=>
     obtain ⟨rfl,hwx⟩:=hcut
     have hwx:=hwx.symm;subst hwx
     have HE1:=Hd (HEx.out kq)
     have HS1:=Hd (HSt.out kq)
     rcases hcls with h | ⟨hn,h⟩
     case inl=>
      have hm:=Hd (show exprK kq = mayN kd i kq from (may_d9 h).symm)
      rw [h]
      clear h
      go_wp2_with (go_at_call 61;(with_reducible refine (HE1.out _).mono ?_);rintro e w2 ⟨rfl,hw2⟩;subst w2)
      go_meet
      exact ⟨_,rfl,hm,rfl⟩
     case inr=>
      rw [hn]
      rcases h with rfl | rfl | rfl | rfl | rfl | rfl | rfl | rfl
      ·have hi0:=True.intro
       have hm0:=Hd (show (stmtK kq || decide (kq = 22)) = mayN 21 i kq by rfl)
       clear hi0
       rcases hs:stmtK kq with _ | _
       case true=>
        rw [hs] at hm0 HS1
        have hm:=Hd (show true = mayN 21 i kq by rw [← hm0.out];rfl)
        clear hm0 hs
        go_wp2_with (first | (go_at_call 61;(with_reducible refine (HE1.out _).mono ?_);rintro e w2 ⟨rfl,hw2⟩;subst w2) | (go_at_call 105;(with_reducible refine (HS1.out _).mono ?_);rintro e w2 ⟨rfl,hw2⟩;subst w2))
        go_meet
        exact ⟨_,rfl,hm,rfl⟩
       case false=>
        rw [hs] at hm0 HS1
        have hm:=Hd (show (kq == 22) = mayN 21 i kq by rw [← hm0.out,Bool.false_or];rfl)
        clear hm0 hs
        go_wp2_with (first | (go_at_call 61;(with_reducible refine (HE1.out _).mono ?_);rintro e w2 ⟨rfl,hw2⟩;subst w2) | (go_at_call 105;(with_reducible refine (HS1.out _).mono ?_);rintro e w2 ⟨rfl,hw2⟩;subst w2))
        go_meet
        exact ⟨_,rfl,hm,rfl⟩
      ·by_cases hi0:i = 0
       ·have i0:((i:Int) == 0) = true:=by simpa using hi0
        have hm:=Hd (show exprK kq = mayN 23 i kq by rw [may_n23,if_pos hi0])
        clear hi0
        go_wp2_with (first | (go_at_call 61;(with_reducible refine (HE1.out _).mono ?_);rintro e w2 ⟨rfl,hw2⟩;subst w2) | (go_at_call 105;(with_reducible refine (HS1.out _).mono ?_);rintro e w2 ⟨rfl,hw2⟩;subst w2))
        go_meet
        exact ⟨_,rfl,hm,rfl⟩
       ·have i0:((i:Int) == 0) = false:=by simpa using hi0
        have hm:=Hd (show stmtK kq = mayN 23 i kq by rw [may_n23,if_neg hi0])
        clear hi0
        go_wp2_with (first | (go_at_call 61;(with_reducible refine (HE1.out _).mono ?_);rintro e w2 ⟨rfl,hw2⟩;subst w2) | (go_at_call 105;(with_reducible refine (HS1.out _).mono ?_);rintro e w2 ⟨rfl,hw2⟩;subst w2))
        go_meet
        exact ⟨_,rfl,hm,rfl⟩
      ·by_cases hi0:i = 0
       ·have i0:((i:Int) == 0) = true:=by simpa using hi0
        have hm:=Hd (show exprK kq = mayN 24 i kq by rw [may_n24,if_pos hi0])
        clear hi0
        go_wp2_with (first | (go_at_call 61;(with_reducible refine (HE1.out _).mono ?_);rintro e w2 ⟨rfl,hw2⟩;subst w2) | (go_at_call 105;(with_reducible refine (HS1.out _).mono ?_);rintro e w2 ⟨rfl,hw2⟩;subst w2))
        go_meet
        exact ⟨_,rfl,hm,rfl⟩
       ·have i0:((i:Int) == 0) = false:=by simpa using hi0
        have hm:=Hd (show stmtK kq = mayN 24 i kq by rw [may_n24,if_neg hi0])
        clear hi0
        go_wp2_with (first | (go_at_call 61;(with_reducible refine (HE1.out _).mono ?_);rintro e w2 ⟨rfl,hw2⟩;subst w2) | (go_at_call 105;(with_reducible refine (HS1.out _).mono ?_);rintro e w2 ⟨rfl,hw2⟩;subst w2))
        go_meet
        exact ⟨_,rfl,hm,rfl⟩
      ·have h2:=H25.out rfl
       by_cases hi0:i = 0
       ·have i1:((i:Int) == 1) = false:=by rw [hi0];rfl
        clear h2
        have hm:=Hd (show stmtK kq = mayN 25 i kq by rw [may_n25,if_pos hi0])
        clear hi0
        go_wp2_with (first | (go_at_call 61;(with_reducible refine (HE1.out _).mono ?_);rintro e w2 ⟨rfl,hw2⟩;subst w2) | (go_at_call 105;(with_reducible refine (HS1.out _).mono ?_);rintro e w2 ⟨rfl,hw2⟩;subst w2))
        go_meet
        exact ⟨_,rfl,hm,rfl⟩
       ·have i1:((i:Int) == 1) = true:=by rw [show i = 1 by omega];rfl
        clear h2
        have hm:=Hd (show exprK kq = mayN 25 i kq by rw [may_n25,if_neg hi0])
        clear hi0
        go_wp2_with (first | (go_at_call 61;(with_reducible refine (HE1.out _).mono ?_);rintro e w2 ⟨rfl,hw2⟩;subst w2) | (go_at_call 105;(with_reducible refine (HS1.out _).mono ?_);rintro e w2 ⟨rfl,hw2⟩;subst w2))
        go_meet
        exact ⟨_,rfl,hm,rfl⟩
      ·have h4:=H26.out rfl
       by_cases hi0:i = 0
       ·have i0:((i:Int) == 0) = true:=by simpa using hi0
        clear h4
        have hm0:=Hd (show decide (kq = 20 ∨ kq = 22 ∨ kq = 33) = mayN 26 i kq by rw [may_n26,if_pos hi0])
        clear hi0
        rcases q20:(kq == 20) with _ | _
        case false=>
         rcases q22:(kq == 22) with _ | _
         case false=>
          have hm:=Hd (show (kq == 33) = mayN 26 i kq by rw [← hm0.out];rw [beq_eq_false_iff_ne] at q20 q22;rw [Bool.eq_iff_iff];simp [q20,q22])
          go_wp2_with (first | (go_at_call 61;(with_reducible refine (HE1.out _).mono ?_);rintro e w2 ⟨rfl,hw2⟩;subst w2) | (go_at_call 105;(with_reducible refine (HS1.out _).mono ?_);rintro e w2 ⟨rfl,hw2⟩;subst w2))
          go_meet
          exact ⟨_,rfl,hm,rfl⟩
         case true=>
          have hm:=Hd (show true = mayN 26 i kq by rw [← hm0.out];rw [beq_iff_eq] at q22;simp [q22])
          go_wp2_with (first | (go_at_call 61;(with_reducible refine (HE1.out _).mono ?_);rintro e w2 ⟨rfl,hw2⟩;subst w2) | (go_at_call 105;(with_reducible refine (HS1.out _).mono ?_);rintro e w2 ⟨rfl,hw2⟩;subst w2))
          go_meet
          exact ⟨_,rfl,hm,rfl⟩
        case true=>
         have hm:=Hd (show true = mayN 26 i kq by rw [← hm0.out];rw [beq_iff_eq] at q20;simp [q20])
         go_wp2_with (first | (go_at_call 61;(with_reducible refine (HE1.out _).mono ?_);rintro e w2 ⟨rfl,hw2⟩;subst w2) | (go_at_call 105;(with_reducible refine (HS1.out _).mono ?_);rintro e w2 ⟨rfl,hw2⟩;subst w2))
         go_meet
         exact ⟨_,rfl,hm,rfl⟩
       ·have i0:((i:Int) == 0) = false:=by simpa using hi0
        by_cases hi3:i = 3
        ·have i3:decide ((i:Int) < 3) = false:=by simp;omega
         clear h4
         have hm:=Hd (show stmtK kq = mayN 26 i kq by rw [may_n26,if_neg hi0,if_pos hi3])
         clear hi0 hi3
         go_wp2_with (first | (go_at_call 61;(with_reducible refine (HE1.out _).mono ?_);rintro e w2 ⟨rfl,hw2⟩;subst w2) | (go_at_call 105;(with_reducible refine (HS1.out _).mono ?_);rintro e w2 ⟨rfl,hw2⟩;subst w2))
         go_meet
         exact ⟨_,rfl,hm,rfl⟩
        ·have i3:decide ((i:Int) < 3) = true:=by simp;omega
         clear h4
         have hm0:=Hd (show (exprK kq || decide (kq = 33)) = mayN 26 i kq by rw [may_n26,if_neg hi0,if_neg hi3])
         clear hi0
         rcases hs:exprK kq with _ | _
         case true=>
          rw [hs] at hm0 HE1
          have hm:=Hd (show true = mayN 26 i kq by rw [← hm0.out];rfl)
          clear hm0 hs
          go_wp2_with (first | (go_at_call 61;(with_reducible refine (HE1.out _).mono ?_);rintro e w2 ⟨rfl,hw2⟩;subst w2) | (go_at_call 105;(with_reducible refine (HS1.out _).mono ?_);rintro e w2 ⟨rfl,hw2⟩;subst w2))
          go_meet
          exact ⟨_,rfl,hm,rfl⟩
         case false=>
          rw [hs] at hm0 HE1
          have hm:=Hd (show (kq == 33) = mayN 26 i kq by rw [← hm0.out,Bool.false_or];rfl)
          clear hm0 hs
          go_wp2_with (first | (go_at_call 61;(with_reducible refine (HE1.out _).mono ?_);rintro e w2 ⟨rfl,hw2⟩;subst w2) | (go_at_call 105;(with_reducible refine (HS1.out _).mono ?_);rintro e w2 ⟨rfl,hw2⟩;subst w2))
          go_meet
          exact ⟨_,rfl,hm,rfl⟩
      ·by_cases hi0:i = 0
       ·have i0:((i:Int) == 0) = true:=by simpa using hi0
        have hm:=Hd (show exprK kq = mayN 27 i kq by rw [may_n27,if_pos hi0])
        clear hi0
        go_wp2_with (first | (go_at_call 61;(with_reducible refine (HE1.out _).mono ?_);rintro e w2 ⟨rfl,hw2⟩;subst w2) | (go_at_call 105;(with_reducible refine (HS1.out _).mono ?_);rintro e w2 ⟨rfl,hw2⟩;subst w2))
        go_meet
        exact ⟨_,rfl,hm,rfl⟩
       ·have i0:((i:Int) == 0) = false:=by simpa using hi0
        have hm:=Hd (show stmtK kq = mayN 27 i kq by rw [may_n27,if_neg hi0])
        clear hi0
        go_wp2_with (first | (go_at_call 61;(with_reducible refine (HE1.out _).mono ?_);rintro e w2 ⟨rfl,hw2⟩;subst w2) | (go_at_call 105;(with_reducible refine (HS1.out _).mono ?_);rintro e w2 ⟨rfl,hw2⟩;subst w2))
        go_meet
        exact ⟨_,rfl,hm,rfl⟩
      ·by_cases hi0:i = 0
       ·have i0:((i:Int) == 0) = true:=by simpa using hi0
        have hm:=Hd (show exprK kq = mayN 28 i kq by rw [may_n28,if_pos hi0])
        clear hi0
        go_wp2_with (first | (go_at_call 61;(with_reducible refine (HE1.out _).mono ?_);rintro e w2 ⟨rfl,hw2⟩;subst w2) | (go_at_call 105;(with_reducible refine (HS1.out _).mono ?_);rintro e w2 ⟨rfl,hw2⟩;subst w2))
        go_meet
        exact ⟨_,rfl,hm,rfl⟩
       ·have i0:((i:Int) == 0) = false:=by simpa using hi0
        have hm:=Hd (show stmtK kq = mayN 28 i kq by rw [may_n28,if_neg hi0])
        clear hi0
        go_wp2_with (first | (go_at_call 61;(with_reducible refine (HE1.out _).mono ?_);rintro e w2 ⟨rfl,hw2⟩;subst w2) | (go_at_call 105;(with_reducible refine (HS1.out _).mono ?_);rintro e w2 ⟨rfl,hw2⟩;subst w2))
        go_meet
        exact ⟨_,rfl,hm,rfl⟩
      ·have hi0:=True.intro
       have hm:=Hd (show stmtK kq = mayN 29 i kq by rfl)
       clear hi0
       go_wp2_with (first | (go_at_call 61;(with_reducible refine (HE1.out _).mono ?_);rintro e w2 ⟨rfl,hw2⟩;subst w2) | (go_at_call 105;(with_reducible refine (HS1.out _).mono ?_);rintro e w2 ⟨rfl,hw2⟩;subst w2))
       go_meet
       exact ⟨_,rfl,hm,rfl⟩
   case rest=>
    obtain ⟨m,rfl,hm,hwx⟩:=hcut
    have hwx:=hwx.symm;subst hwx
    cases m with
    | false=>
      have hv:=Hd (show fit = false by rw [hfit.out,mayAll_no (j:=i) (p:=q) (by rw [List.getElem?_eq_getElem hlt,HQ.out]) (by rw [Nat.zero_add,← HKq.out];exact hm.out.symm)];rfl)
      go_wp2_with fail
      go_ret
      rw [hv.out]
      exact ⟨rfl,HB1.out⟩
    | true=>
      have HY2:=Hd (show ∀ (j p:Nat),j < i + 1 → P[j]? = some p → mayN kd j (kindAt t p) = true from fun j p hj hp=>by
       rcases Nat.lt_or_ge j i with h' | h'
       ·exact HY.out j p h' hp
       ·obtain rfl:j = i:=by omega
        rw [List.getElem?_eq_getElem hlt,← HQ.out] at hp
        obtain rfl:=Option.some.inj hp
        rw [← HKq.out]
        exact hm.out.symm)
      clear HY
      go_wp2_with fail
      go_round
      case rel=>exact ⟨i + 1,by omega,by go_num,HY2⟩
      case measure=>simp [intOf];omega
  ·obtain rfl:i = P.length:=by omega
   have hall:=Hd (show mayAll t kd 0 P = true from mayAll_yes fun j p hp=>by rw [Nat.zero_add];exact HY.out j p (List.getElem?_eq_some_iff.1 hp).1 hp)
   clear HY
   by_cases h23:kd = 23
   ·have g23n:(kd != 23) = false:=by rw [h23];rfl
    have hP:=H23.out h23
    by_cases h3:P.length = 2
    ·have t2:decide ((P.length:Int) < 3) = true:=by simp;omega
     have hv:=Hd (show fit = true by rw [hfit.out,hall.out];simp [h3])
     go_wp2_with fail
     go_ret
     rw [hv.out]
     exact ⟨rfl,HB1.out⟩
    ·have h3:P.length = 3:=by omega
     have t2:decide ((P.length:Int) < 3) = false:=by simp;omega
     have hP1:1 < P.length:=by omega
     have hplt:=HLt.out _ (List.getElem_mem hP1)
     obtain ⟨pb,po,hpa,hpb,c2⟩:=nats_at HP.out hP1
     subst hpa
     have hv:=Hd (show fit = !openN t fr P[1] by rw [hfit.out,hall.out,(getD_mem hP1).1];simp [h23,h3])
     obtain ⟨q,hq⟩:∃ q,q = P[1]:=⟨_,rfl⟩
     rw [← hq] at hplt c2 hv
     clear hq h23 hall
     have HO1:=Hd (HOp.out q (by omega) w1 (HW.out.below HB1.out))
     go_wp2_with (go_at_call 106;(with_reducible refine HO1.out.mono ?_);rintro e w2 ⟨rfl,hb2⟩;have HB2:=Ht HB1 hb2;clear hb2)
     go_ret
     rw [hv.out]
     exact ⟨by simp,HB2.out⟩
   ·have g23n:(kd != 23) = true:=by rw [bne_iff_ne];exact h23
    have hv:=Hd (show fit = true by rw [hfit.out,hall.out];simp [h23])
    go_wp2_with fail
    go_ret
    rw [hv.out]
    exact ⟨rfl,HB1.out⟩
end Go.Proofs.YtbbaooeioogijaaGreatDoor
