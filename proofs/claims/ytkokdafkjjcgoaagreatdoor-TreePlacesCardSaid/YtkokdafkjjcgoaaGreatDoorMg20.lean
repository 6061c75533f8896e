/- How many parts a kind has: both texts. -/
import Derived.Test.YtkokdafkjjcgoaaGreatDoorMg17
namespace Go.Proofs.YtkokdafkjjcgoaaGreatDoor
open Go.RowKit
theorem kinds (k:Int):k = 1 ∨ k = 2 ∨ k = 3 ∨ k = 17 ∨ k = 30 ∨ k = 31 ∨ k = 33 ∨ k = 4 ∨ k = 5 ∨ k = 6 ∨ k = 13 ∨ k = 14 ∨ k = 15 ∨ k = 16 ∨ k = 20 ∨ k = 29 ∨ k = 7 ∨ k = 8 ∨ k = 10 ∨ k = 12 ∨ k = 24 ∨ k = 25 ∨ k = 27 ∨ k = 28 ∨ k = 9 ∨ k = 26 ∨ k = 11 ∨ k = 21 ∨ k = 22 ∨ k = 32 ∨ k = 23 ∨ (k ≠ 1 ∧ k ≠ 2 ∧ k ≠ 3 ∧ k ≠ 17 ∧ k ≠ 30 ∧ k ≠ 31 ∧ k ≠ 33 ∧ k ≠ 4 ∧ k ≠ 5 ∧ k ≠ 6 ∧ k ≠ 13 ∧ k ≠ 14 ∧ k ≠ 15 ∧ k ≠ 16 ∧ k ≠ 20 ∧ k ≠ 29 ∧ k ≠ 7 ∧ k ≠ 8 ∧ k ≠ 10 ∧ k ≠ 12 ∧ k ≠ 24 ∧ k ≠ 25 ∧ k ≠ 27 ∧ k ≠ 28 ∧ k ≠ 9 ∧ k ≠ 26 ∧ k ≠ 11 ∧ k ≠ 21 ∧ k ≠ 22 ∧ k ≠ 32 ∧ k ≠ 23):=by omega
theorem arity_no {k:Int} (h:k ≠ 1 ∧ k ≠ 2 ∧ k ≠ 3 ∧ k ≠ 17 ∧ k ≠ 30 ∧ k ≠ 31 ∧ k ≠ 33 ∧ k ≠ 4 ∧ k ≠ 5 ∧ k ≠ 6 ∧ k ≠ 13 ∧ k ≠ 14 ∧ k ≠ 15 ∧ k ≠ 16 ∧ k ≠ 20 ∧ k ≠ 29 ∧ k ≠ 7 ∧ k ≠ 8 ∧ k ≠ 10 ∧ k ≠ 12 ∧ k ≠ 24 ∧ k ≠ 25 ∧ k ≠ 27 ∧ k ≠ 28 ∧ k ≠ 9 ∧ k ≠ 26 ∧ k ≠ 11 ∧ k ≠ 21 ∧ k ≠ 22 ∧ k ≠ 32 ∧ k ≠ 23):arityN k = (-1,-1):=by
 unfold arityN
 rw [if_neg (by omega),if_neg (by omega),if_neg (by omega),if_neg (by omega),if_neg (by omega),if_neg (by omega),if_neg (by omega),if_neg (by omega),if_neg (by omega)]
set_option maxHeartbeats 8000000 in
theorem arity_ok (k:Int) (w:World):Calls Tryz.prog 130 #[.int .i64 k] w fun e w'=>e = .returned (.tuple #[.int .i64 (arityN k).1,.int .i64 (arityN k).2]) ∧ w' = w:=by
 rcases kinds k with rfl | rfl | rfl | rfl | rfl | rfl | rfl | rfl | rfl | rfl | rfl | rfl | rfl | rfl | rfl | rfl | rfl | rfl | rfl | rfl | rfl | rfl | rfl | rfl | rfl | rfl | rfl | rfl | rfl | rfl | rfl | h
 case' inr.inr.inr.inr.inr.inr.inr.inr.inr.inr.inr.inr.inr.inr.inr.inr.inr.inr.inr.inr.inr.inr.inr.inr.inr.inr.inr.inr.inr.inr.inr=>
  rw [arity_no h]
  obtain ⟨n1,n2,n3,n17,n30,n31,n33,n4,n5,n6,n13,n14,n15,n16,n20,n29,n7,n8,n10,n12,n24,n25,n27,n28,n9,n26,n11,n21,n22,n32,n23⟩:=h
  have t1:(k == 1) = false:=by rw [beq_eq_false_iff_ne];exact n1
  have t2:(k == 2) = false:=by rw [beq_eq_false_iff_ne];exact n2
  have t3:(k == 3) = false:=by rw [beq_eq_false_iff_ne];exact n3
  have t4:(k == 4) = false:=by rw [beq_eq_false_iff_ne];exact n4
  have t5:(k == 5) = false:=by rw [beq_eq_false_iff_ne];exact n5
  have t6:(k == 6) = false:=by rw [beq_eq_false_iff_ne];exact n6
  have t7:(k == 7) = false:=by rw [beq_eq_false_iff_ne];exact n7
  have t8:(k == 8) = false:=by rw [beq_eq_false_iff_ne];exact n8
  have t9:(k == 9) = false:=by rw [beq_eq_false_iff_ne];exact n9
  have t10:(k == 10) = false:=by rw [beq_eq_false_iff_ne];exact n10
  have t11:(k == 11) = false:=by rw [beq_eq_false_iff_ne];exact n11
  have t12:(k == 12) = false:=by rw [beq_eq_false_iff_ne];exact n12
  have t13:(k == 13) = false:=by rw [beq_eq_false_iff_ne];exact n13
  have t14:(k == 14) = false:=by rw [beq_eq_false_iff_ne];exact n14
  have t15:(k == 15) = false:=by rw [beq_eq_false_iff_ne];exact n15
  have t16:(k == 16) = false:=by rw [beq_eq_false_iff_ne];exact n16
  have t17:(k == 17) = false:=by rw [beq_eq_false_iff_ne];exact n17
  have t20:(k == 20) = false:=by rw [beq_eq_false_iff_ne];exact n20
  have t21:(k == 21) = false:=by rw [beq_eq_false_iff_ne];exact n21
  have t22:(k == 22) = false:=by rw [beq_eq_false_iff_ne];exact n22
  have t23:(k == 23) = false:=by rw [beq_eq_false_iff_ne];exact n23
  have t24:(k == 24) = false:=by rw [beq_eq_false_iff_ne];exact n24
  have t25:(k == 25) = false:=by rw [beq_eq_false_iff_ne];exact n25
  have t26:(k == 26) = false:=by rw [beq_eq_false_iff_ne];exact n26
  have t27:(k == 27) = false:=by rw [beq_eq_false_iff_ne];exact n27
  have t28:(k == 28) = false:=by rw [beq_eq_false_iff_ne];exact n28
  have t29:(k == 29) = false:=by rw [beq_eq_false_iff_ne];exact n29
  have t30:(k == 30) = false:=by rw [beq_eq_false_iff_ne];exact n30
  have t31:(k == 31) = false:=by rw [beq_eq_false_iff_ne];exact n31
  have t32:(k == 32) = false:=by rw [beq_eq_false_iff_ne];exact n32
  have t33:(k == 33) = false:=by rw [beq_eq_false_iff_ne];exact n33
  clear n1 n2 n3 n17 n30 n31 n33 n4 n5 n6 n13 n14 n15 n16 n20 n29 n7 n8 n10 n12 n24 n25 n27 n28 n9 n26 n11 n21 n22 n32 n23
 all_goals
  go_enter Tryz.func130,Tryz.ntmps130
  go_wp2_with fail
  go_ret2
  exact ⟨by rfl,rfl⟩
def faultN (L:List Sr):Int × Int:=match learnK L with
 | .inl (i,c)=>(((i:Nat):Int),c)
 | .inr _=>(0,0)
theorem faultN_bad {L:List Sr} {i:Nat} {c:Int} (h:learnK L = .inl (i,c)):faultN L = (((i:Nat):Int),c):=by unfold faultN;rw [h]
theorem faultN_ok {L:List Sr} {K:List Kn} (h:learnK L = .inr K):faultN L = (0,0):=by unfold faultN;rw [h]
def StructsEnd (L:List Sr) (w:World) (e:Ending) (w':World):Prop:=e = .returned (.agg #[.int .i64 (faultN L).1,.int .i64 (faultN L).2]) ∧ Below w.heap.size w w'
theorem structsEnd {L:List Sr} {x y:Int} {w w':World} (h:faultN L = (x,y)) (hb:Below w.heap.size w w'):StructsEnd L w (.returned (.agg #[.int .i64 x,.int .i64 y])) w':=⟨by rw [h],hb⟩
theorem IsSrs.take {B:Nat} {w:World} {a:Option Addr} {L:List Sr} {mv:List Value} (h:IsSrs B w a L mv) (k:Nat):IsSrs B w a (L.take k) (mv.take k):=by
 refine ⟨by rw [List.length_take,List.length_take,h.len],fun hn=>?_,fun x hx=>h.names x (List.mem_of_mem_take hx)⟩
 obtain ⟨b,off,e,hlt,hr⟩:=h.at_ (fun e=>hn (by rw [e];simp))
 refine ⟨b,off,e,hlt,fun i x v hx hv=>hr i x v ?_ ?_⟩
 ·rw [List.getElem?_take] at hx;split at hx;exact hx;cases hx
 ·rw [List.getElem?_take] at hv;split at hv;exact hv;cases hv
def checkN (L:List Sr) (s:ByteArray):Int:=match learnK L with
 | .inl (_,c)=>c
 | .inr K=>checkS K s
theorem checkN_bad {L:List Sr} {s:ByteArray} {i:Nat} {c:Int} (h:learnK L = .inl (i,c)):checkN L s = c:=by unfold checkN;rw [h]
theorem checkN_ok {L:List Sr} {s:ByteArray} {K:List Kn} (h:learnK L = .inr K):checkN L s = checkS K s:=by unfold checkN;rw [h]
theorem learnF_ne:∀ (l:List Sr) (K:List Kn) {i:Nat} {c:Int},learnF K l = .inl (i,c) → c ≠ 0
 | [],_,_,_,h=>by rw [learnF] at h;cases h
 | x :: l,K,i,c,h=>by
   rw [learnF] at h
   split at h
   ·rename_i e he
    have:=Sum.inl.inj h
    have h2:e = c:=(Prod.mk.inj this).2
    subst h2
    exact addK_ne he
   ·exact learnF_ne l _ h
theorem learnK_ne {L:List Sr} {i:Nat} {c:Int} (h:learnK L = .inl (i,c)):c ≠ 0:=by
 unfold learnK at h
 split at h
 ·have h2:(3:Int) = c:=(Prod.mk.inj (Sum.inl.inj h)).2
  subst h2;decide
 ·exact learnF_ne _ _ h
theorem fault_blk (w:World) (x y:Value):(w.alloc (.cells #[x,y] 68)).heap[w.heap.size]? = some (.cells #[x,y] 68 (0,0)):=heap_alloc_new _ _
set_option maxRecDepth 100000 in
set_option maxHeartbeats 4000000 in
theorem checkAll_ok (s:ByteArray) (a:Option Addr) (cap:Nat) (L:List Sr) (mv:List Value) (w:World) (hE:TE w) (hS:IsSrs w.heap.size w a L mv) :
 Calls Tryz.prog 125 #[.string s,.slice a L.length cap] w fun e w'=>e = .returned (.int .i64 (checkN L s)) ∧ Below w.heap.size w w':=by
 have HE:=Hd hE
 have HL:=Hd (learn_ok a cap L mv w hE hS)
 clear hE hS
 go_enter Tryz.func125,Tryz.ntmps125
 go_wp2_with (go_at_call 123;(with_reducible refine HL.out.mono ?_))
 intro e w1 hend
 obtain ⟨hb1,⟨i,c,hl,hc,rfl⟩ | ⟨K,b,mb,lv,sv,av,hl,rfl,hF,hkn⟩⟩:=hend
 ·have hfin:=Hd (checkN_bad (s:=s) hl)
  have t1:(c != 0) = true:=by simp [hc]
  have HB1:=Hd hb1
  clear hl hc hb1
  go_wp2_with fail
  go_ret
  exact ⟨by rw [hfin.out];rfl,HB1.out.alloc HB1.out.size _⟩
 ·have HB1:=Hd hb1
  have hg:Below (w1.heap.size) w1 (w1.alloc (.cells #[.int .i64 0,.int .i64 0] 68)):=(Below.refl _ _).alloc (Nat.le_refl _) _
  have HG:=Hd (hb1.trans (hg.mono hb1.size))
  have HC:=Hd (check_ok s _ (HE.out.below HG.out) (hkn.below hg) hF)
  have hfin:=Hd (checkN_ok (s:=s) hl)
  clear hkn hb1 hg hF hl
  generalize checkS K s = c at *
  go_wp2_with (go_at_call 170;(with_reducible refine HC.out.mono ?_);rintro e w5 ⟨rfl,hb5⟩;have HB5:=Ht HG hb5;clear hb5)
  go_ret
  exact ⟨by rw [hfin.out];rfl,HB5.out⟩
set_option maxRecDepth 100000 in
set_option maxHeartbeats 4000000 in
theorem structs_ok (a:Option Addr) (cap:Nat) (L:List Sr) (mv:List Value) (w:World) (hE:TE w) (hS:IsSrs w.heap.size w a L mv) :
 Calls Tryz.prog 73 #[.slice a L.length cap] w (StructsEnd L w):=by
 have HE:=Hd hE
 have HS:=Hd hS
 clear hE hS
 have hat:=fault_blk w (.int .i64 0) (.int .i64 0)
 have hb1:Below w.heap.size w (w.alloc (.cells #[.int .i64 0,.int .i64 0] 68)):=(Below.refl _ _).alloc (Nat.le_refl _) _
 go_enter Tryz.func73,Tryz.ntmps73
 go_upto_region 1 with fail
 generalize w.alloc (.cells #[.int .i64 0,.int .i64 0] 68) = w0 at *
 have HAt:=Hd hat
 have HB0:=Hd hb1
 have hz0:=lt_of_heap hat
 have HL0:=Hd (show Calls Tryz.prog 123 #[.slice a L.length cap] w0 (fun e w'=>(∃ p:Value,e = .returned (.tuple #[p,.agg #[.int .i64 (faultN L).1,.int .i64 (faultN L).2]])) ∧ Below w0.heap.size w0 w') from (learn_ok a cap L mv w0 (HE.out.below hb1) ((HS.out.below hb1).mono hb1.size)).mono fun e w' h=>by
  obtain ⟨hb,⟨i,c,hl,hc,rfl⟩ | ⟨K,b,mb,lv,sv,av,hl,rfl,hF,hkn⟩⟩:=h
  ·exact ⟨⟨_,by rw [faultN_bad hl]⟩,hb⟩
  ·exact ⟨⟨_,by rw [faultN_ok hl]⟩,hb⟩)
 have HF:=Hd (show faultN L = ((faultN L).1,(faultN L).2) from rfl)
 generalize (faultN L).1 = x at *
 generalize (faultN L).2 = c at *
 clear hat hb1
 go_upto_region 2 with (go_at_call 123;(with_reducible refine HL0.out.mono ?_);rintro e w1 ⟨⟨p,rfl⟩,hb1⟩;have HB1:=Hd hb1;clear hb1)
 have hb2:Below w1.heap.size w1 (w1.alloc (.cells #[.int .i64 x,.int .i64 c] 68)):=(Below.refl _ _).alloc (Nat.le_refl _) _
 have hk:=fault_blk w1 (.int .i64 x) (.int .i64 c)
 generalize w1.alloc (.cells #[.int .i64 x,.int .i64 c] 68) = w2 at *
 obtain ⟨⟨k0,k1⟩,_⟩:=two_block hk
 have h31:=(HB1.out.block _ hz0).trans HAt.out
 obtain ⟨⟨d0,d1⟩,fd⟩:=two_block ((hb2.block _ (lt_of_heap h31)).trans h31)
 have fd0:=fd 0
 have fd1:=fd 1
 have HB2:=Hd (HB0.out.trans ((HB1.out.trans (hb2.mono HB1.out.size)).mono HB0.out.size))
 clear fd h31 hb2 hk
 go_wp2_with fail
 exact bodyPost_ret (v:=.agg #[.int .i64 x,.int .i64 c]) (by simp [results,Tryz.results73,go_sem,d0,d1]) rfl (structsEnd HF.out (set_fault HB2.out _ _))
theorem eqlit (s:ByteArray) (l:List UInt8):(s.toList == l) = decide (s.data.toList = l):=by
 rw [Lib.toList_data,Bool.eq_iff_iff,beq_iff_eq,decide_eq_true_iff]
theorem lit_eq {s:ByteArray} {l m:List UInt8} {b:Bool} (h:s.data.toList = l) (hb:decide (l = m) = b):(s.toList == m) = b:=by rw [eqlit,h];exact hb
theorem lit_ne {s:ByteArray} {m:List UInt8} (h:s.data.toList ≠ m):(s.toList == m) = false:=by rw [eqlit];exact decide_eq_false h
def levelL (l:List UInt8):Int:=
 if l = [124,124] then 4 else
 if l = [38,38] then 5 else
 if l = [124] then 6 else
 if l = [94] then 7 else
 if l = [38] then 8 else
 if l = [61,61] then 9 else
 if l = [33,61] then 9 else
 if l = [60] then 10 else
 if l = [62] then 10 else
 if l = [60,61] then 10 else
 if l = [62,61] then 10 else
 if l = [60,60] then 11 else
 if l = [62,62] then 11 else
 if l = [43] then 12 else
 if l = [45] then 12 else
 if l = [42] then 13 else
 if l = [47] then 13 else
 if l = [37] then 13 else
 0
def levelN (s:ByteArray):Int:=levelL s.data.toList
theorem lits (l:List UInt8):l = [124,124] ∨ l = [38,38] ∨ l = [124] ∨ l = [94] ∨ l = [38] ∨ l = [61,61] ∨ l = [33,61] ∨ l = [60] ∨ l = [62] ∨ l = [60,61] ∨ l = [62,61] ∨ l = [60,60] ∨ l = [62,62] ∨ l = [43] ∨ l = [45] ∨ l = [42] ∨ l = [47] ∨ l = [37] ∨ (l ≠ [124,124] ∧ l ≠ [38,38] ∧ l ≠ [124] ∧ l ≠ [94] ∧ l ≠ [38] ∧ l ≠ [61,61] ∧ l ≠ [33,61] ∧ l ≠ [60] ∧ l ≠ [62] ∧ l ≠ [60,61] ∧ l ≠ [62,61] ∧ l ≠ [60,60] ∧ l ≠ [62,62] ∧ l ≠ [43] ∧ l ≠ [45] ∧ l ≠ [42] ∧ l ≠ [47] ∧ l ≠ [37]):=by
 by_cases h0:l = [124,124]
 ·exact .inl h0
 by_cases h1:l = [38,38]
 ·exact .inr (.inl h1)
 by_cases h2:l = [124]
 ·exact .inr (.inr (.inl h2))
 by_cases h3:l = [94]
 ·exact .inr (.inr (.inr (.inl h3)))
 by_cases h4:l = [38]
 ·exact .inr (.inr (.inr (.inr (.inl h4))))
 by_cases h5:l = [61,61]
 ·exact .inr (.inr (.inr (.inr (.inr (.inl h5)))))
 by_cases h6:l = [33,61]
 ·exact .inr (.inr (.inr (.inr (.inr (.inr (.inl h6))))))
 by_cases h7:l = [60]
 ·exact .inr (.inr (.inr (.inr (.inr (.inr (.inr (.inl h7)))))))
 by_cases h8:l = [62]
 ·exact .inr (.inr (.inr (.inr (.inr (.inr (.inr (.inr (.inl h8))))))))
 by_cases h9:l = [60,61]
 ·exact .inr (.inr (.inr (.inr (.inr (.inr (.inr (.inr (.inr (.inl h9)))))))))
 by_cases h10:l = [62,61]
 ·exact .inr (.inr (.inr (.inr (.inr (.inr (.inr (.inr (.inr (.inr (.inl h10))))))))))
 by_cases h11:l = [60,60]
 ·exact .inr (.inr (.inr (.inr (.inr (.inr (.inr (.inr (.inr (.inr (.inr (.inl h11)))))))))))
 by_cases h12:l = [62,62]
 ·exact .inr (.inr (.inr (.inr (.inr (.inr (.inr (.inr (.inr (.inr (.inr (.inr (.inl h12))))))))))))
 by_cases h13:l = [43]
 ·exact .inr (.inr (.inr (.inr (.inr (.inr (.inr (.inr (.inr (.inr (.inr (.inr (.inr (.inl h13)))))))))))))
 by_cases h14:l = [45]
 ·exact .inr (.inr (.inr (.inr (.inr (.inr (.inr (.inr (.inr (.inr (.inr (.inr (.inr (.inr (.inl h14))))))))))))))
 by_cases h15:l = [42]
 ·exact .inr (.inr (.inr (.inr (.inr (.inr (.inr (.inr (.inr (.inr (.inr (.inr (.inr (.inr (.inr (.inl h15)))))))))))))))
 by_cases h16:l = [47]
 ·exact .inr (.inr (.inr (.inr (.inr (.inr (.inr (.inr (.inr (.inr (.inr (.inr (.inr (.inr (.inr (.inr (.inl h16))))))))))))))))
 by_cases h17:l = [37]
 ·exact .inr (.inr (.inr (.inr (.inr (.inr (.inr (.inr (.inr (.inr (.inr (.inr (.inr (.inr (.inr (.inr (.inr (.inl h17)))))))))))))))))
 exact .inr (.inr (.inr (.inr (.inr (.inr (.inr (.inr (.inr (.inr (.inr (.inr (.inr (.inr (.inr (.inr (.inr (.inr ⟨h0,h1,h2,h3,h4,h5,h6,h7,h8,h9,h10,h11,h12,h13,h14,h15,h16,h17⟩)))))))))))))))))
theorem level_none {l:List UInt8} (h:l ≠ [124,124] ∧ l ≠ [38,38] ∧ l ≠ [124] ∧ l ≠ [94] ∧ l ≠ [38] ∧ l ≠ [61,61] ∧ l ≠ [33,61] ∧ l ≠ [60] ∧ l ≠ [62] ∧ l ≠ [60,61] ∧ l ≠ [62,61] ∧ l ≠ [60,60] ∧ l ≠ [62,62] ∧ l ≠ [43] ∧ l ≠ [45] ∧ l ≠ [42] ∧ l ≠ [47] ∧ l ≠ [37]):levelL l = 0:=by
 obtain ⟨h0,h1,h2,h3,h4,h5,h6,h7,h8,h9,h10,h11,h12,h13,h14,h15,h16,h17⟩:=h
 unfold levelL
 rw [if_neg h0,if_neg h1,if_neg h2,if_neg h3,if_neg h4,if_neg h5,if_neg h6,if_neg h7,if_neg h8,if_neg h9,if_neg h10,if_neg h11,if_neg h12,if_neg h13,if_neg h14,if_neg h15,if_neg h16,if_neg h17]
theorem level_pos (s:ByteArray):decide (0 < levelN s) = Lib.containsS marksB s:=by
 have key:∀ l:List UInt8,decide (0 < levelL l) = decide (l ∈ marksB.map fun m=>m.data.toList):=fun l=>by
  rcases lits l with rfl | rfl | rfl | rfl | rfl | rfl | rfl | rfl | rfl | rfl | rfl | rfl | rfl | rfl | rfl | rfl | rfl | rfl | h
  case' inr.inr.inr.inr.inr.inr.inr.inr.inr.inr.inr.inr.inr.inr.inr.inr.inr.inr=>
   rw [level_none h]
   obtain ⟨h0,h1,h2,h3,h4,h5,h6,h7,h8,h9,h10,h11,h12,h13,h14,h15,h16,h17⟩:=h
   symm
   rw [show decide ((0:Int) < 0) = false by rfl,decide_eq_false_iff_not]
   intro hm
   simp only [marksB,List.map,List.mem_cons,List.not_mem_nil,or_false] at hm
   rcases hm with hm | hm | hm | hm | hm | hm | hm | hm | hm | hm | hm | hm | hm | hm | hm | hm | hm | hm <;> first | exact h0 hm | exact h1 hm | exact h2 hm | exact h3 hm | exact h4 hm | exact h5 hm | exact h6 hm | exact h7 hm | exact h8 hm | exact h9 hm | exact h10 hm | exact h11 hm | exact h12 hm | exact h13 hm | exact h14 hm | exact h15 hm | exact h16 hm | exact h17 hm
  all_goals rfl
 unfold levelN
 rw [key,Bool.eq_iff_iff,decide_eq_true_iff,Lib.containsS_iff,List.mem_map]
 exact ⟨fun ⟨m,hm,e⟩=>by rw [← toList_eq e];exact hm,fun h=>⟨s,h,rfl⟩⟩
set_option maxHeartbeats 8000000 in
theorem level_ok (s:ByteArray) (w:World):Calls Tryz.prog 100 #[.string s] w fun e w'=>e = .returned (.int .i64 (levelN s)) ∧ w' = w:=by
 rcases lits s.data.toList with h | h | h | h | h | h | h | h | h | h | h | h | h | h | h | h | h | h | h
 case' inr.inr.inr.inr.inr.inr.inr.inr.inr.inr.inr.inr.inr.inr.inr.inr.inr.inr=>
  have hfin:=Hd (show levelL s.data.toList = 0 from level_none h)
  obtain ⟨h0,h1,h2,h3,h4,h5,h6,h7,h8,h9,h10,h11,h12,h13,h14,h15,h16,h17⟩:=h
  have t0:(s.toList == [124,124]) = false:=lit_ne h0
  have t1:(s.toList == [38,38]) = false:=lit_ne h1
  have t2:(s.toList == [124]) = false:=lit_ne h2
  have t3:(s.toList == [94]) = false:=lit_ne h3
  have t4:(s.toList == [38]) = false:=lit_ne h4
  have t5:(s.toList == [61,61]) = false:=lit_ne h5
  have t6:(s.toList == [33,61]) = false:=lit_ne h6
  have t7:(s.toList == [60]) = false:=lit_ne h7
  have t8:(s.toList == [62]) = false:=lit_ne h8
  have t9:(s.toList == [60,61]) = false:=lit_ne h9
  have t10:(s.toList == [62,61]) = false:=lit_ne h10
  have t11:(s.toList == [60,60]) = false:=lit_ne h11
  have t12:(s.toList == [62,62]) = false:=lit_ne h12
  have t13:(s.toList == [43]) = false:=lit_ne h13
  have t14:(s.toList == [45]) = false:=lit_ne h14
  have t15:(s.toList == [42]) = false:=lit_ne h15
  have t16:(s.toList == [47]) = false:=lit_ne h16
  have t17:(s.toList == [37]) = false:=lit_ne h17
  clear h0 h1 h2 h3 h4 h5 h6 h7 h8 h9 h10 h11 h12 h13 h14 h15 h16 h17
 all_goals try (have ht:=fun m:List UInt8=>(eqlit s m).trans (by rw [h]);have hfin:=Hd (congrArg levelL h);clear h)
 all_goals
  go_enter Tryz.func100,Tryz.ntmps100
  go_wp2_with fail
  go_ret
  exact ⟨by unfold levelN;rw [hfin.out];rfl,rfl⟩
theorem lit_cells (l:List ByteArray) (w:World) (T:TypeId):∀ j,j < l.length → (w.alloc (.cells (l.map Value.string).toArray T)).cell? ⟨w.heap.size,0 + j,none⟩ = some (.string (l.getD j ByteArray.empty)):=fun j hj=>by
 have h:=heap_alloc_new w (.cells (l.map Value.string).toArray T)
 simp only [World.cell?,h,Nat.zero_add]
 simp [List.getD_eq_getElem?_getD,List.getElem?_eq_getElem hj]
theorem marks_short (k:Int):(marksN k).length ≤ 1048576:=by
 unfold marksN
 repeat' split
 all_goals decide
theorem contains_lit (k:Int) (s:ByteArray) (w:World):Calls Tryz.prog 174 #[.slice (some ⟨w.heap.size,0,none⟩) (marksN k).length (marksN k).length,.string s] (w.alloc (.cells ((marksN k).map Value.string).toArray 9)) fun e w'=>e = .returned (.bool (Lib.containsS (marksN k) s)) ∧ w' = w.alloc (.cells ((marksN k).map Value.string).toArray 9):=by
 have h:=Tryz.slices_Contains_string _ 0 (marksN k).length (marksN k).length (marksN k) s _ (Nat.le_refl _) (Nat.le_trans (marks_short k) (by decide)) (lit_cells (marksN k) w 9)
 rw [List.take_length] at h
 exact h
set_option maxHeartbeats 1000000 in
theorem marked_4 (s:ByteArray) (w:World):Calls Tryz.prog 133 #[.int .i64 4,.string s] w fun e w'=>e = .returned (.bool (Lib.containsS (marksN 4) s)) ∧ Below w.heap.size w w':=by
 have HC:=Hd (show ∀ w1:World,Calls Tryz.prog 174 #[.slice (some ⟨w1.heap.size,0,none⟩) 5 5,.string s] (w1.alloc (.cells ((marksN 4).map Value.string).toArray 9)) fun e w'=>e = .returned (.bool (Lib.containsS (marksN 4) s)) ∧ w' = w1.alloc (.cells ((marksN 4).map Value.string).toArray 9) from fun w1=>by have h:=contains_lit 4 s w1;rw [show (marksN 4).length = 5 by decide] at h;exact h)
 go_enter Tryz.func133,Tryz.ntmps133
 go_wp2_with (go_at_call 174;refine (HC.out w).mono ?_;rintro e w1 ⟨rfl,hw1⟩;subst w1)
 go_ret
 exact ⟨rfl,(Below.refl _ _).alloc (Nat.le_refl _) _⟩
set_option maxHeartbeats 1000000 in
theorem marked_5 (s:ByteArray) (w:World):Calls Tryz.prog 133 #[.int .i64 5,.string s] w fun e w'=>e = .returned (.bool (Lib.containsS (marksN 5) s)) ∧ Below w.heap.size w w':=by
 have HC:=Hd (show ∀ w1:World,Calls Tryz.prog 174 #[.slice (some ⟨w1.heap.size,0,none⟩) 2 2,.string s] (w1.alloc (.cells ((marksN 5).map Value.string).toArray 9)) fun e w'=>e = .returned (.bool (Lib.containsS (marksN 5) s)) ∧ w' = w1.alloc (.cells ((marksN 5).map Value.string).toArray 9) from fun w1=>by have h:=contains_lit 5 s w1;rw [show (marksN 5).length = 2 by decide] at h;exact h)
 go_enter Tryz.func133,Tryz.ntmps133
 go_wp2_with (go_at_call 174;refine (HC.out w).mono ?_;rintro e w1 ⟨rfl,hw1⟩;subst w1)
 go_ret
 exact ⟨rfl,(Below.refl _ _).alloc (Nat.le_refl _) _⟩
set_option maxHeartbeats 1000000 in
theorem marked_6 (s:ByteArray) (w:World):Calls Tryz.prog 133 #[.int .i64 6,.string s] w fun e w'=>e = .returned (.bool (Lib.containsS (marksN 6) s)) ∧ Below w.heap.size w w':=by
 have HC:=Hd (show ∀ w1:World,Calls Tryz.prog 174 #[.slice (some ⟨w1.heap.size,0,none⟩) 2 2,.string s] (w1.alloc (.cells ((marksN 6).map Value.string).toArray 9)) fun e w'=>e = .returned (.bool (Lib.containsS (marksN 6) s)) ∧ w' = w1.alloc (.cells ((marksN 6).map Value.string).toArray 9) from fun w1=>by have h:=contains_lit 6 s w1;rw [show (marksN 6).length = 2 by decide] at h;exact h)
 go_enter Tryz.func133,Tryz.ntmps133
 go_wp2_with (go_at_call 174;refine (HC.out w).mono ?_;rintro e w1 ⟨rfl,hw1⟩;subst w1)
 go_ret
 exact ⟨rfl,(Below.refl _ _).alloc (Nat.le_refl _) _⟩
set_option maxHeartbeats 1000000 in
theorem marked_8 (s:ByteArray) (w:World):Calls Tryz.prog 133 #[.int .i64 8,.string s] w fun e w'=>e = .returned (.bool (Lib.containsS (marksN 8) s)) ∧ Below w.heap.size w w':=by
 have HC:=Hd (show ∀ w1:World,Calls Tryz.prog 174 #[.slice (some ⟨w1.heap.size,0,none⟩) 11 11,.string s] (w1.alloc (.cells ((marksN 8).map Value.string).toArray 9)) fun e w'=>e = .returned (.bool (Lib.containsS (marksN 8) s)) ∧ w' = w1.alloc (.cells ((marksN 8).map Value.string).toArray 9) from fun w1=>by have h:=contains_lit 8 s w1;rw [show (marksN 8).length = 11 by decide] at h;exact h)
 go_enter Tryz.func133,Tryz.ntmps133
 go_wp2_with (go_at_call 174;refine (HC.out w).mono ?_;rintro e w1 ⟨rfl,hw1⟩;subst w1)
 go_ret
 exact ⟨rfl,(Below.refl _ _).alloc (Nat.le_refl _) _⟩
set_option maxHeartbeats 1000000 in
theorem marked_7 (s:ByteArray) (w:World):Calls Tryz.prog 133 #[.int .i64 7,.string s] w fun e w'=>e = .returned (.bool (Lib.containsS (marksN 7) s)) ∧ Below w.heap.size w w':=by
 have HL:=Hd (fun w=>level_ok s w)
 have hp:=Hd (show decide (0 < levelN s) = Lib.containsS (marksN 7) s from level_pos s)
 generalize levelN s = l at *
 go_enter Tryz.func133,Tryz.ntmps133
 go_wp2_with (go_at_call 100;(with_reducible refine (HL.out _).mono ?_);rintro e w1 ⟨rfl,hw1⟩;subst w1)
 go_ret
 exact ⟨by rw [← hp.out];rfl,Below.refl _ _⟩
theorem marked_ok (k:Int) (s:ByteArray) (w:World) (hk:k = 4 ∨ k = 5 ∨ k = 6 ∨ k = 7 ∨ k = 8):Calls Tryz.prog 133 #[.int .i64 k,.string s] w fun e w'=>e = .returned (.bool (Lib.containsS (marksN k) s)) ∧ Below w.heap.size w w':=by
 rcases hk with rfl | rfl | rfl | rfl | rfl
 ·exact marked_4 s w
 ·exact marked_5 s w
 ·exact marked_6 s w
 ·exact marked_7 s w
 ·exact marked_8 s w
theorem ret_bool9 {a b:Bool} (h:a = b):Ending.returned (.bool a) = .returned (.bool b):=by rw [h]
theorem typed_tri (s:ByteArray):(checkS [] s = 0 ∧ typedS s = true) ∨ (checkS [] s ≠ 0 ∧ checkS [] s = 4 ∧ typedS s = true) ∨ (checkS [] s ≠ 0 ∧ checkS [] s ≠ 4 ∧ typedS s = false):=by
 unfold typedS
 by_cases h0:checkS [] s = 0
 ·exact .inl ⟨h0,by simp [h0]⟩
 ·by_cases h4:checkS [] s = 4
  ·exact .inr (.inl ⟨h0,h4,by simp [h4]⟩)
  ·exact .inr (.inr ⟨h0,h4,by simp [h0,h4]⟩)
theorem typed_some {s:ByteArray} (h:typedS s = true):∃ t,tyS s = some t ∧ s = tyB t ∧ Right t:=by
 unfold typedS at h
 cases ht:tyS s with
 | none=>rw [checkS_none ht] at h;simp at h
 | some t=>
   obtain ⟨h1,h2,_⟩:=tyS_some.1 ht
   exact ⟨t,rfl,h1,h2⟩
set_option maxHeartbeats 1000000 in
theorem typed_ok (s:ByteArray) (w:World) (hE:TE w):Calls Tryz.prog 132 #[.string s] w fun e w'=>e = .returned (.bool (typedS s)) ∧ Below w.heap.size w w':=by
 have HC:=Hd (checkNil_ok s w hE)
 rcases typed_tri s with ⟨h0,h⟩ | ⟨h0,h4,h⟩ | ⟨h0,h4,h⟩
 case' inl=>
  rw [h0] at HC
  rw [h]
  clear h0 h
 case' inr.inl=>
  rw [h4] at HC
  rw [h]
  clear h0 h4 h
 case' inr.inr=>
  have t1:(checkS [] s == 0) = false:=by simp [h0]
  have t2:(checkS [] s == 4) = false:=by simp [h4]
  rw [h]
  clear h0 h4 h
  generalize checkS [] s = c at *
 all_goals
  go_enter Tryz.func132,Tryz.ntmps132
  go_wp2_with (go_at_call 125;(with_reducible refine HC.out.mono ?_);rintro e w1 ⟨rfl,hb1⟩;have HB1:=Hd hb1;clear hb1)
  go_ret
  exact ⟨rfl,HB1.out⟩
theorem object_is {s:ByteArray} {t:Ty} (h:tyS s = some t):objectS s = objectT t:=by unfold objectS;rw [h];rfl
set_option maxHeartbeats 1000000 in
theorem objectS_ok (s:ByteArray) (w:World) (hty:typedS s = true):Calls Tryz.prog 126 #[.string s] w fun e w'=>e = .returned (.bool (objectS s)) ∧ w' = w:=by
 obtain ⟨t,ht,rfl,hr⟩:=typed_some hty
 rw [object_is ht]
 clear ht hty
 have hv:=one_is hr 118
 have h0:=(tyB_head t).1
 have hf:((((tyB t)[0]'h0).toNat:Int) == 102) = isFnT t:=head_fn' hr
 have ho:objectT t = (!isC 118 t && !isFnT t):=by rw [objectT,isVoid_is]
 generalize tyB t = s at *
 rcases h1:isC 118 t with _ | _
 ·rw [h1] at hv ho
  have hv':(s.toList != [118]) = true:=by rw [bne,hv];rfl
  rcases h2:isFnT t with _ | _
  ·rw [h2] at hf ho
   have hf':((s[0].toNat:Int) != 102) = true:=by rw [bne,hf];rfl
   have hfin:=Hd ho
   clear ho h1 h2
   go_enter Tryz.func126,Tryz.ntmps126
   go_wp2_with fail
   go_ret
   exact ⟨by rw [hfin.out];rfl,rfl⟩
  ·rw [h2] at hf ho
   have hf':((s[0].toNat:Int) != 102) = false:=by rw [bne,hf];rfl
   have hfin:=Hd ho
   clear ho h1 h2
   go_enter Tryz.func126,Tryz.ntmps126
   go_wp2_with fail
   go_ret
   exact ⟨by rw [hfin.out];rfl,rfl⟩
 ·rw [h1] at hv ho
  have hv':(s.toList != [118]) = false:=by rw [bne,hv];rfl
  have hfin:=Hd ho
  clear ho h1 hf
  go_enter Tryz.func126,Tryz.ntmps126
  go_wp2_with fail
  go_ret
  exact ⟨by rw [hfin.out];rfl,rfl⟩
theorem lit_u (s:ByteArray):(s = ⟨#[117]⟩) ↔ s.data.toList = [117]:=⟨fun h=>by rw [h],fun h=>toList_eq (by rw [h])⟩
theorem lit_i (s:ByteArray):(s = ⟨#[105]⟩) ↔ s.data.toList = [105]:=⟨fun h=>by rw [h],fun h=>toList_eq (by rw [h])⟩
theorem number_cases (i:Int) (t:ByteArray) {k n p:Int} {s:ByteArray} :
 (t.data.toList = [117] ∧ i < 0 ∧ numberN ⟨k,n,p,i,s,t⟩ = false) ∨ (t.data.toList = [117] ∧ 0 ≤ i ∧ 4294967296 ≤ i ∧ numberN ⟨k,n,p,i,s,t⟩ = false) ∨ (t.data.toList = [117] ∧ 0 ≤ i ∧ i < 4294967296 ∧ numberN ⟨k,n,p,i,s,t⟩ = true) ∨
 (t.data.toList = [105] ∧ i < -128 ∧ numberN ⟨k,n,p,i,s,t⟩ = false) ∨ (t.data.toList = [105] ∧ -128 ≤ i ∧ 2147483648 ≤ i ∧ numberN ⟨k,n,p,i,s,t⟩ = false) ∨ (t.data.toList = [105] ∧ -128 ≤ i ∧ i < 2147483648 ∧ numberN ⟨k,n,p,i,s,t⟩ = true) ∨
 (t.data.toList ≠ [117] ∧ t.data.toList ≠ [105] ∧ numberN ⟨k,n,p,i,s,t⟩ = false):=by
 by_cases hu:t.data.toList = [117]
 ·have e:∀ b,numberN ⟨k,n,p,i,s,t⟩ = b ↔ decide (0 ≤ i ∧ i < 4294967296) = b:=fun b=>by unfold numberN;rw [if_pos ((lit_u t).2 hu)]
  by_cases h0:i < 0
  ·exact .inl ⟨hu,h0,(e _).2 (decide_eq_false (by omega))⟩
  ·by_cases h1:i < 4294967296
   ·exact .inr (.inr (.inl ⟨hu,by omega,h1,(e _).2 (decide_eq_true (by omega))⟩))
   ·exact .inr (.inl ⟨hu,by omega,by omega,(e _).2 (decide_eq_false (by omega))⟩)
 ·by_cases hi:t.data.toList = [105]
  ·have e:∀ b,numberN ⟨k,n,p,i,s,t⟩ = b ↔ decide (-128 ≤ i ∧ i < 2147483648) = b:=fun b=>by
    unfold numberN
    rw [if_neg (fun h=>hu ((lit_u t).1 h)),decide_eq_true ((lit_i t).2 hi),Bool.true_and]
   by_cases h0:i < -128
   ·exact .inr (.inr (.inr (.inl ⟨hi,h0,(e _).2 (decide_eq_false (by omega))⟩)))
   ·by_cases h1:i < 2147483648
    ·exact .inr (.inr (.inr (.inr (.inr (.inl ⟨hi,by omega,h1,(e _).2 (decide_eq_true (by omega))⟩)))))
    ·exact .inr (.inr (.inr (.inr (.inl ⟨hi,by omega,by omega,(e _).2 (decide_eq_false (by omega))⟩))))
  ·refine .inr (.inr (.inr (.inr (.inr (.inr ⟨hu,hi,?_⟩)))))
   unfold numberN
   rw [if_neg (fun h=>hu ((lit_u t).1 h)),decide_eq_false (fun h=>hi ((lit_i t).1 h)),Bool.false_and]
theorem empty_is (s:ByteArray):s.toList.isEmpty = noText s:=by
 rw [Lib.toList_data,noText,Bool.eq_iff_iff,decide_eq_true_iff,List.isEmpty_iff,← List.length_eq_zero_iff,Array.length_toList]
 exact Iff.rfl
set_option maxHeartbeats 2000000 in
theorem ndNumber_ok (k n p i:Int) (s t:ByteArray) (w:World):Calls Tryz.prog 131 #[.agg #[.int .i64 k,.int .i64 n,.int .i64 p,.int .i64 i,.string s,.string t]] w fun e w'=>e = .returned (.bool (numberN ⟨k,n,p,i,s,t⟩)) ∧ Below w.heap.size w w':=by
 rcases number_cases (k:=k) (n:=n) (p:=p) (s:=s) i t with ⟨hu,a1,h⟩ | ⟨hu,a1,a2,h⟩ | ⟨hu,a1,a2,h⟩ | ⟨hu,a1,h⟩ | ⟨hu,a1,a2,h⟩ | ⟨hu,a1,a2,h⟩ | ⟨hu,a1,h⟩
 case' inl=>
  have q1:(t.toList == [117]) = true:=lit_eq hu rfl
 case' inr.inl=>
  have q1:(t.toList == [117]) = true:=lit_eq hu rfl
 case' inr.inr.inl=>
  have q1:(t.toList == [117]) = true:=lit_eq hu rfl
 case' inr.inr.inr.inl=>
  have q1:(t.toList == [117]) = false:=lit_eq hu rfl
  have q2:(t.toList == [105]) = true:=lit_eq hu rfl
 case' inr.inr.inr.inr.inl=>
  have q1:(t.toList == [117]) = false:=lit_eq hu rfl
  have q2:(t.toList == [105]) = true:=lit_eq hu rfl
 case' inr.inr.inr.inr.inr.inl=>
  have q1:(t.toList == [117]) = false:=lit_eq hu rfl
  have q2:(t.toList == [105]) = true:=lit_eq hu rfl
 case' inr.inr.inr.inr.inr.inr=>
  have q1:(t.toList == [117]) = false:=lit_ne hu
  have q2:(t.toList == [105]) = false:=lit_ne a1
  clear a1
 all_goals
  rw [h]
  clear hu h
  go_enter Tryz.func131,Tryz.ntmps131
  go_upto_region 1 with fail
  have hx1:(w.alloc (ndObj ⟨k,n,p,i,s,t⟩)).heap[w.heap.size]? = some (.cells #[.int .i64 k,.int .i64 n,.int .i64 p,.int .i64 i,.string s,.string t] 36 (0,0)):=heap_alloc_new _ _
  have hb1:Below w.heap.size w (w.alloc (ndObj ⟨k,n,p,i,s,t⟩)):=(Below.refl _ _).alloc (Nat.le_refl _) _
  simp only [ndObj] at hx1 hb1
  generalize w.alloc (.cells #[.int .i64 k,.int .i64 n,.int .i64 p,.int .i64 i,.string s,.string t] 36) = w1 at *
  have hz1:=lt_of_heap hx1
  obtain ⟨⟨d0,d1,d2,d3,d4,d5⟩,_⟩:=six_block hx1
  have HX1:=Hd hx1
  have HB1:=Hd hb1
  clear hx1 hb1
  go_wp2_with fail
  go_ret
  first | exact ⟨rfl,HB1.out⟩ | exact ⟨ret_bool9 (decide_eq_false (by omega)),HB1.out⟩ | exact ⟨ret_bool9 (decide_eq_true (by omega)),HB1.out⟩
end Go.Proofs.YtkokdafkjjcgoaaGreatDoor
