/- A node that is right by itself: the reference. · Depths · Depths: the reference. · A node that is right by itself: declarations; all nodes: the -/
import Derived.Test.YtlcfejgjeljjdaaGreatDoorWell
import Derived.Deep.RegionHeld3
import Derived.Deep.CutBlock
import Derived.Test.YtlcfejgjeljjdaaGreatDoorMg7
import Derived.Test.YtlcfejgjeljjdaaGreatDoorMg13
namespace Go.Proofs.YtlcfejgjeljjdaaGreatDoor
open Go.RowKit
set_option maxHeartbeats 4000000 in
theorem refWell_size (k n p i:Int) (s t:ByteArray) (w:World) (h:sizeOk ⟨k,n,p,i,s,t⟩ = false):Calls Tryz.prog 81 #[.agg #[.int .i64 k,.int .i64 n,.int .i64 p,.int .i64 i,.string s,.string t]] w fun e w'=>e = .returned (.bool false) ∧ Below w.heap.size w w':=by
 have HA:=Hd (fun w=>refArity_ok k w)
 have hc:=size_no k n p i s t h
 clear h
 generalize arityN k = ar at *
 obtain ⟨lo,hi⟩:=ar
 simp only at hc HA
 rcases hc with a1 | ⟨a1,a2⟩ | ⟨a1,a2,a3⟩ | ⟨a1,a2,a3,a4⟩ | ⟨a1,a2,a3,a4,a5⟩
 all_goals
  go_enter Tryz.func81,Tryz.ntmps81
  go_upto_region 1 with fail
  have hx1:(w.alloc (ndObj ⟨k,n,p,i,s,t⟩)).heap[w.heap.size]? = some (.cells #[.int .i64 k,.int .i64 n,.int .i64 p,.int .i64 i,.string s,.string t] 42 (0,0)):=heap_alloc_new _ _
  have hb1:Below w.heap.size w (w.alloc (ndObj ⟨k,n,p,i,s,t⟩)):=(Below.refl _ _).alloc (Nat.le_refl _) _
  simp only [ndObj] at hx1 hb1
  generalize w.alloc (.cells #[.int .i64 k,.int .i64 n,.int .i64 p,.int .i64 i,.string s,.string t] 42) = w1 at *
  have hz1:=lt_of_heap hx1
  obtain ⟨⟨d0,d1,d2,d3,d4,d5⟩,_⟩:=six_block hx1
  have HX1:=Hd hx1
  have HB1:=Hd hb1
  clear hx1 hb1
  go_wp2_with (first | (go_at_call 104;(with_reducible refine (HA.out _).mono ?_);rintro e w2 ⟨rfl,hw2⟩;subst w2))
  go_ret
  exact ⟨rfl,HB1.out⟩
set_option maxHeartbeats 4000000 in
theorem refWell_num (k n p i:Int) (s t:ByteArray) (w:World) (h:sizeOk ⟨k,n,p,i,s,t⟩ = true) (hk:k = 1):Calls Tryz.prog 81 #[.agg #[.int .i64 k,.int .i64 n,.int .i64 p,.int .i64 i,.string s,.string t]] w fun e w'=>e = .returned (.bool (numberN ⟨k,n,p,i,s,t⟩ && noText s)) ∧ Below w.heap.size w w':=by
 have HA:=Hd (fun w=>refArity_ok k w)
 obtain ⟨a1,a2,a3,a4,a5⟩:=size_yes h
 clear h
 generalize arityN k = ar at *
 obtain ⟨lo,hi⟩:=ar
 simp only at a1 a2 a3 HA
 have g1:(k == 1) = true:=by rw [hk];rfl
 have he:=empty_is s
 clear hk
 rcases number_cases (k:=k) (n:=n) (p:=p) (s:=s) i t with ⟨hu,b1,h⟩ | ⟨hu,b1,b2,h⟩ | ⟨hu,b1,b2,h⟩ | ⟨hu,b1,h⟩ | ⟨hu,b1,b2,h⟩ | ⟨hu,b1,b2,h⟩ | ⟨hu,hu2,h⟩
 case' inl=>
  have q1:(t.toList == [117]) = true:=lit_eq hu rfl
  have q2:(t.toList == [105]) = false:=lit_eq hu rfl
 case' inr.inl=>
  have q1:(t.toList == [117]) = true:=lit_eq hu rfl
  have q2:(t.toList == [105]) = false:=lit_eq hu rfl
 case' inr.inr.inl=>
  have q1:(t.toList == [117]) = true:=lit_eq hu rfl
  have q2:(t.toList == [105]) = false:=lit_eq hu rfl
 case' inr.inr.inr.inl=>
  have q1:(t.toList == [117]) = false:=lit_eq hu rfl
  have q2:(t.toList == [105]) = true:=lit_eq hu rfl
 case' inr.inr.inr.inr.inl=>
  have q1:(t.toList == [117]) = false:=lit_eq hu rfl
  have q2:(t.toList == [105]) = true:=lit_eq hu rfl
 case' inr.inr.inr.inr.inr.inl=>
  have q1:(t.toList == [117]) = false:=lit_eq hu rfl
  have q2:(t.toList == [105]) = true:=lit_eq hu rfl
 case' inr.inr.inr.inr.inr.inr=>
  have q1:(t.toList == [117]) = false:=lit_ne hu
  have q2:(t.toList == [105]) = false:=lit_ne hu2
  clear hu2
 all_goals
  rw [h]
  clear hu h
  generalize noText s = c at *
  go_enter Tryz.func81,Tryz.ntmps81
  go_upto_region 1 with fail
  have hx1:(w.alloc (ndObj ⟨k,n,p,i,s,t⟩)).heap[w.heap.size]? = some (.cells #[.int .i64 k,.int .i64 n,.int .i64 p,.int .i64 i,.string s,.string t] 42 (0,0)):=heap_alloc_new _ _
  have hb1:Below w.heap.size w (w.alloc (ndObj ⟨k,n,p,i,s,t⟩)):=(Below.refl _ _).alloc (Nat.le_refl _) _
  simp only [ndObj] at hx1 hb1
  generalize w.alloc (.cells #[.int .i64 k,.int .i64 n,.int .i64 p,.int .i64 i,.string s,.string t] 42) = w1 at *
  have hz1:=lt_of_heap hx1
  obtain ⟨⟨d0,d1,d2,d3,d4,d5⟩,_⟩:=six_block hx1
  have HX1:=Hd hx1
  have HB1:=Hd hb1
  clear hx1 hb1
  go_wp2_with (first | (go_at_call 104;(with_reducible refine (HA.out _).mono ?_);rintro e w2 ⟨rfl,hw2⟩;subst w2))
  go_ret
  exact ⟨rfl,HB1.out⟩
def textOk (x:Nd):Bool:=
 if x.kind = 2 then decide (x.text.size ≤ 4096)
 else if x.kind = 3 ∨ x.kind = 13 ∨ x.kind = 14 ∨ x.kind = 22 then isNameB x.text
 else if x.kind = 4 ∨ x.kind = 5 ∨ x.kind = 6 ∨ x.kind = 7 ∨ x.kind = 8 then Lib.containsS (marksN x.kind) x.text
 else noText x.text
def typeOk (x:Nd):Bool:=
 if x.kind = 15 ∨ x.kind = 17 then typedS x.type
 else if x.kind = 22 then typedS x.type && objectS x.type
 else noText x.type
theorem body_both (x:Nd):bodyOk x = (textOk x && typeOk x):=by
 unfold bodyOk textOk typeOk
 by_cases h2:x.kind = 2
 ·rw [if_pos h2,if_pos h2,if_neg (by omega),if_neg (by omega)]
 rw [if_neg h2,if_neg h2]
 by_cases h3:x.kind = 3 ∨ x.kind = 13 ∨ x.kind = 14
 ·rw [if_pos h3,if_pos (by omega),if_neg (by omega),if_neg (by omega)]
 rw [if_neg h3]
 by_cases h22:x.kind = 22
 ·rw [if_pos h22,if_pos (by omega),if_neg (by omega),if_pos h22]
 rw [if_neg h22,if_neg (show ¬(x.kind = 3 ∨ x.kind = 13 ∨ x.kind = 14 ∨ x.kind = 22) by omega),if_neg h22]
 by_cases h4:x.kind = 4 ∨ x.kind = 5 ∨ x.kind = 6 ∨ x.kind = 7 ∨ x.kind = 8
 ·rw [if_pos h4,if_pos h4,if_neg (show ¬(x.kind = 15 ∨ x.kind = 17) by omega)]
 rw [if_neg h4,if_neg h4]
 by_cases h15:x.kind = 15 ∨ x.kind = 17
 ·rw [if_pos h15,if_pos h15]
 rw [if_neg h15,if_neg h15]
theorem text_cases (k n p i:Int) (s t:ByteArray):(k = 2 ∧ textOk ⟨k,n,p,i,s,t⟩ = decide (s.size ≤ 4096)) ∨ ((k = 3 ∨ k = 13 ∨ k = 14 ∨ k = 22) ∧ textOk ⟨k,n,p,i,s,t⟩ = isNameB s) ∨ ((k = 4 ∨ k = 5 ∨ k = 6 ∨ k = 7 ∨ k = 8) ∧ textOk ⟨k,n,p,i,s,t⟩ = Lib.containsS (marksN k) s) ∨ ((k ≠ 2 ∧ k ≠ 3 ∧ k ≠ 13 ∧ k ≠ 14 ∧ k ≠ 22 ∧ k ≠ 4 ∧ k ≠ 5 ∧ k ≠ 6 ∧ k ≠ 7 ∧ k ≠ 8) ∧ textOk ⟨k,n,p,i,s,t⟩ = noText s):=by
 unfold textOk
 simp only
 by_cases h2:k = 2
 ·exact .inl ⟨h2,by rw [if_pos h2]⟩
 rw [if_neg h2]
 by_cases h3:k = 3 ∨ k = 13 ∨ k = 14 ∨ k = 22
 ·exact .inr (.inl ⟨h3,by rw [if_pos h3]⟩)
 rw [if_neg h3]
 by_cases h4:k = 4 ∨ k = 5 ∨ k = 6 ∨ k = 7 ∨ k = 8
 ·exact .inr (.inr (.inl ⟨h4,by rw [if_pos h4]⟩))
 rw [if_neg h4]
 exact .inr (.inr (.inr ⟨by omega,rfl⟩))
theorem type_cases (k n p i:Int) (s t:ByteArray):((k = 15 ∨ k = 17) ∧ typeOk ⟨k,n,p,i,s,t⟩ = typedS t) ∨ (k = 22 ∧ typeOk ⟨k,n,p,i,s,t⟩ = (typedS t && objectS t)) ∨ ((k ≠ 15 ∧ k ≠ 17 ∧ k ≠ 22) ∧ typeOk ⟨k,n,p,i,s,t⟩ = noText t):=by
 unfold typeOk
 simp only
 by_cases h2:k = 15 ∨ k = 17
 ·exact .inl ⟨h2,by rw [if_pos h2]⟩
 rw [if_neg h2]
 by_cases h3:k = 22
 ·exact .inr (.inl ⟨h3,by rw [if_pos h3]⟩)
 rw [if_neg h3]
 exact .inr (.inr ⟨by omega,rfl⟩)
set_option maxRecDepth 100000 in
set_option maxHeartbeats 8000000 in
theorem refWell_rest (k n p i:Int) (s t:ByteArray) (w:World) (h:sizeOk ⟨k,n,p,i,s,t⟩ = true) (hk:k ≠ 1):Calls Tryz.prog 81 #[.agg #[.int .i64 k,.int .i64 n,.int .i64 p,.int .i64 i,.string s,.string t]] w fun e w'=>e = .returned (.bool (intOk ⟨k,n,p,i,s,t⟩ && bodyOk ⟨k,n,p,i,s,t⟩)) ∧ Below w.heap.size w w':=by
 have HA:=Hd (fun w=>refArity_ok k w)
 obtain ⟨a1,a2,a3,a4,a5⟩:=size_yes h
 clear h
 generalize arityN k = ar at *
 obtain ⟨lo,hi⟩:=ar
 simp only at a1 a2 a3 HA
 have g1:(k == 1) = false:=by simpa using hk
 clear hk
 go_enter Tryz.func81,Tryz.ntmps81
 go_upto_region 1 with fail
 have hx1:(w.alloc (ndObj ⟨k,n,p,i,s,t⟩)).heap[w.heap.size]? = some (.cells #[.int .i64 k,.int .i64 n,.int .i64 p,.int .i64 i,.string s,.string t] 42 (0,0)):=heap_alloc_new _ _
 have hb1:Below w.heap.size w (w.alloc (ndObj ⟨k,n,p,i,s,t⟩)):=(Below.refl _ _).alloc (Nat.le_refl _) _
 simp only [ndObj] at hx1 hb1
 generalize w.alloc (.cells #[.int .i64 k,.int .i64 n,.int .i64 p,.int .i64 i,.string s,.string t] 42) = w1 at *
 have hz1:=lt_of_heap hx1
 obtain ⟨⟨d0,d1,d2,d3,d4,d5⟩,_⟩:=six_block hx1
 have HX1:=Hd hx1
 have HB1:=Hd hb1
 clear hx1 hb1
 go_upto_region 4 with (first | (go_at_call 104;(with_reducible refine (HA.out _).mono ?_);rintro e w2 ⟨rfl,hw2⟩;subst w2))
 go_upto_block 0 with fail
 go_cut [6] (fun v wx=>∃ b:Bool,v = .bool b ∧ Hid (b = textOk ⟨k,n,p,i,s,t⟩) ∧ Hid (Below w1.heap.size w1 wx))
 case first=>
  have he:=empty_is s
  have HNm:=Hd (fun w=>baseName_any s w)
  have HMk:=Hd (fun w hk=>refMarks_ok k w hk)
  have HIn:=Hd (fun w=>refIn_ok k s w)
  obtain ⟨ht,h⟩ | ⟨ht,h⟩ | ⟨ht,h⟩ | ⟨ht,h⟩:=text_cases k n p i s t
  all_goals have HF:=Hd h;clear h
  ·subst ht
   generalize hb:decide (s.size ≤ 4096) = b at *
   cases b
   ·have t2:decide ((s.size:Int) ≤ 4096) = false:=by rw [decide_eq_false_iff_not] at hb ⊢;omega
    clear hb
    go_wp2_with fail
    go_meet
    exact ⟨_,rfl,Hd HF.out.symm,Hd (Below.refl _ _)⟩
   ·have t2:decide ((s.size:Int) ≤ 4096) = true:=by rw [decide_eq_true_iff] at hb ⊢;omega
    clear hb
    go_wp2_with fail
    go_meet
    exact ⟨_,rfl,Hd HF.out.symm,Hd (Below.refl _ _)⟩
  ·generalize isNameB s = b at *
   rcases ht with rfl | rfl | rfl | rfl
   all_goals
    go_wp2_with (go_at_call 105;(with_reducible refine (HNm.out _).mono ?_);rintro e w2 ⟨rfl,hb2⟩;have HB2:=Hd hb2;clear hb2)
    go_meet
    exact ⟨_,rfl,Hd HF.out.symm,HB2⟩
  ·have HMk1:=Hd (HMk.out w1.drew ht)
   have HIn1:=Hd (show Calls Tryz.prog 31 #[.slice (some ⟨w1.heap.size,0,none⟩) (marksN k).length (marksN k).length,.string s] ((w1.alloc (.cells ((marksN k).map Value.string).toArray 9)).drew) (fun e w'=>e = .returned (.bool (Lib.containsS (marksN k) s)) ∧ (w1.alloc (.cells ((marksN k).map Value.string).toArray 9)).drew = w') from HIn.out w1.drew)
   have HCl:=Hd (show ∀ w',Below w1.heap.size w1 w' → w'.cell? ⟨w.heap.size,0,none⟩ = some (.int .i64 k) ∧ w'.cell? ⟨w.heap.size,4,none⟩ = some (.string s) from fun w' hb=>⟨by rw [hb.cell hz1];exact d0,by rw [hb.cell hz1];exact d4⟩)
   clear HMk HIn
   generalize Lib.containsS (marksN k) s = b at *
   generalize marksN k = M at *
   rcases ht with rfl | rfl | rfl | rfl | rfl
   ·go_upto_region 22 with fail
    go_region_held3 (fun w'=>w'.cell? ⟨w.heap.size,0,none⟩ = some (.int .i64 4) ∧ w'.cell? ⟨w.heap.size,4,none⟩ = some (.string s)) (first | (constructor <;> assumption) | exact HCl.out _ ((Below.refl _ _).drew) | exact HCl.out _ (((Below.refl _ _).alloc (Nat.le_refl _) _).drew)) (first | (go_at_call 106;(with_reducible refine HMk1.out.mono ?_);rintro e w2 ⟨rfl,hw2⟩;subst w2) | (go_at_call 31;(with_reducible refine HIn1.out.mono ?_);rintro e w2 ⟨rfl,hw2⟩;subst w2))
    go_wp2_with fail
    go_meet
    exact ⟨_,rfl,Hd HF.out.symm,Hd ((((Below.refl _ _).alloc (Nat.le_refl _) _).drew))⟩
   ·go_upto_region 22 with fail
    go_region_held3 (fun w'=>w'.cell? ⟨w.heap.size,0,none⟩ = some (.int .i64 5) ∧ w'.cell? ⟨w.heap.size,4,none⟩ = some (.string s)) (first | (constructor <;> assumption) | exact HCl.out _ ((Below.refl _ _).drew) | exact HCl.out _ (((Below.refl _ _).alloc (Nat.le_refl _) _).drew)) (first | (go_at_call 106;(with_reducible refine HMk1.out.mono ?_);rintro e w2 ⟨rfl,hw2⟩;subst w2) | (go_at_call 31;(with_reducible refine HIn1.out.mono ?_);rintro e w2 ⟨rfl,hw2⟩;subst w2))
    go_wp2_with fail
    go_meet
    exact ⟨_,rfl,Hd HF.out.symm,Hd ((((Below.refl _ _).alloc (Nat.le_refl _) _).drew))⟩
   ·go_upto_region 22 with fail
    go_region_held3 (fun w'=>w'.cell? ⟨w.heap.size,0,none⟩ = some (.int .i64 6) ∧ w'.cell? ⟨w.heap.size,4,none⟩ = some (.string s)) (first | (constructor <;> assumption) | exact HCl.out _ ((Below.refl _ _).drew) | exact HCl.out _ (((Below.refl _ _).alloc (Nat.le_refl _) _).drew)) (first | (go_at_call 106;(with_reducible refine HMk1.out.mono ?_);rintro e w2 ⟨rfl,hw2⟩;subst w2) | (go_at_call 31;(with_reducible refine HIn1.out.mono ?_);rintro e w2 ⟨rfl,hw2⟩;subst w2))
    go_wp2_with fail
    go_meet
    exact ⟨_,rfl,Hd HF.out.symm,Hd ((((Below.refl _ _).alloc (Nat.le_refl _) _).drew))⟩
   ·go_upto_region 22 with fail
    go_region_held3 (fun w'=>w'.cell? ⟨w.heap.size,0,none⟩ = some (.int .i64 7) ∧ w'.cell? ⟨w.heap.size,4,none⟩ = some (.string s)) (first | (constructor <;> assumption) | exact HCl.out _ ((Below.refl _ _).drew) | exact HCl.out _ (((Below.refl _ _).alloc (Nat.le_refl _) _).drew)) (first | (go_at_call 106;(with_reducible refine HMk1.out.mono ?_);rintro e w2 ⟨rfl,hw2⟩;subst w2) | (go_at_call 31;(with_reducible refine HIn1.out.mono ?_);rintro e w2 ⟨rfl,hw2⟩;subst w2))
    go_wp2_with fail
    go_meet
    exact ⟨_,rfl,Hd HF.out.symm,Hd ((((Below.refl _ _).alloc (Nat.le_refl _) _).drew))⟩
   ·go_upto_region 22 with fail
    go_region_held3 (fun w'=>w'.cell? ⟨w.heap.size,0,none⟩ = some (.int .i64 8) ∧ w'.cell? ⟨w.heap.size,4,none⟩ = some (.string s)) (first | (constructor <;> assumption) | exact HCl.out _ ((Below.refl _ _).drew) | exact HCl.out _ (((Below.refl _ _).alloc (Nat.le_refl _) _).drew)) (first | (go_at_call 106;(with_reducible refine HMk1.out.mono ?_);rintro e w2 ⟨rfl,hw2⟩;subst w2) | (go_at_call 31;(with_reducible refine HIn1.out.mono ?_);rintro e w2 ⟨rfl,hw2⟩;subst w2))
    go_wp2_with fail
    go_meet
    exact ⟨_,rfl,Hd HF.out.symm,Hd ((((Below.refl _ _).alloc (Nat.le_refl _) _).drew))⟩
  ·obtain ⟨n2,n3,n13,n14,n22,n4,n5,n6,n7,n8⟩:=ht
   have g2:(k == 2) = false:=by simpa using n2
   have g3:(k == 3) = false:=by simpa using n3
   have g13:(k == 13) = false:=by simpa using n13
   have g14:(k == 14) = false:=by simpa using n14
   have g22:(k == 22) = false:=by simpa using n22
   have g4:(k == 4) = false:=by simpa using n4
   have g5:(k == 5) = false:=by simpa using n5
   have g6:(k == 6) = false:=by simpa using n6
   have g7:(k == 7) = false:=by simpa using n7
   have g8:(k == 8) = false:=by simpa using n8
   clear n2 n3 n13 n14 n22 n4 n5 n6 n7 n8
   generalize noText s = b at *
   go_wp2_with fail
   go_meet
   exact ⟨_,rfl,Hd HF.out.symm,Hd (Below.refl _ _)⟩
 case rest=>
  obtain ⟨b,rfl,hb,hB⟩:=hcut
  have hx2:=(hB.out.block _ hz1).trans HX1.out
  obtain ⟨⟨e0,e1,e2,e3,e4,e5⟩,_⟩:=six_block hx2
  have hz2:=lt_of_heap hx2
  have HX2:=Hd hx2
  clear hx2 d0 d1 d2 d3 d4 d5
  go_upto_block 1 with fail
  go_cut [7] (fun v wx=>∃ b:Bool,v = .bool b ∧ Hid (b = typeOk ⟨k,n,p,i,s,t⟩) ∧ Hid (Below w1.heap.size w1 wx))
  case first=>
   have he:=empty_is t
   have HRi:=Hd (fun w=>right_ok t w)
   have HOb:=Hd (fun w=>refObjectS_ok t w)
   obtain ⟨ht,h⟩ | ⟨ht,h⟩ | ⟨ht,h⟩:=type_cases k n p i s t
   all_goals have HF:=Hd h;clear h
   ·generalize typedS t = c at *
    rcases ht with rfl | rfl
    all_goals
     go_wp2_with (go_at_call 107;(with_reducible refine (HRi.out _).mono ?_);rintro e w2 ⟨rfl,hb2⟩;have HB2:=Hd (hB.out.trans (hb2.mono hB.out.size));clear hb2)
     go_meet
     exact ⟨_,rfl,Hd HF.out.symm,HB2⟩
   ·subst ht
    generalize (typedS t && objectS t) = c at *
    go_wp2_with (go_at_call 108;(with_reducible refine (HOb.out _).mono ?_);rintro e w2 ⟨rfl,hb2⟩;have HB2:=Hd (hB.out.trans (hb2.mono hB.out.size));clear hb2)
    go_meet
    exact ⟨_,rfl,Hd HF.out.symm,HB2⟩
   ·obtain ⟨n15,n17,n22⟩:=ht
    have g15:(k == 15) = false:=by simpa using n15
    have g17:(k == 17) = false:=by simpa using n17
    have g22:(k == 22) = false:=by simpa using n22
    clear n15 n17 n22
    generalize noText t = c at *
    go_wp2_with fail
    go_meet
    exact ⟨_,rfl,Hd HF.out.symm,hB⟩
  case rest=>
   obtain ⟨c,rfl,hc,hC⟩:=hcut
   have hx3:=(hC.out.block _ hz1).trans HX1.out
   obtain ⟨⟨y0,y1,y2,y3,y4,y5⟩,_⟩:=six_block hx3
   have HB3:=Hd (HB1.out.trans (hC.out.mono HB1.out.size))
   have hv:=Hd (show (intOk ⟨k,n,p,i,s,t⟩ && bodyOk ⟨k,n,p,i,s,t⟩) = (intOk ⟨k,n,p,i,s,t⟩ && (b && c)) by rw [body_both,hb.out,hc.out])
   clear hx3 hb hc
   cases b
   ·go_wp2_with fail
    go_ret
    exact ⟨by rw [hv.out];simp,HB3.out⟩
   cases c
   ·go_wp2_with fail
    go_ret
    exact ⟨by rw [hv.out];simp,HB3.out⟩
   rcases hi0:(i == 0) with _ | _
   ·rcases h22:(k == 22) with _ | _
    ·have hi:=Hd (show intOk ⟨k,n,p,i,s,t⟩ = false by unfold intOk;rw [decide_eq_false_iff_not];rw [beq_eq_false_iff_ne] at hi0 h22;simp only;omega)
     go_wp2_with fail
     go_ret
     exact ⟨by rw [hv.out,hi.out];simp,HB3.out⟩
    ·rcases hi1:(i == 1) with _ | _
     ·have hi:=Hd (show intOk ⟨k,n,p,i,s,t⟩ = false by unfold intOk;rw [decide_eq_false_iff_not];rw [beq_eq_false_iff_ne] at hi0 hi1;simp only;omega)
      go_wp2_with fail
      go_ret
      exact ⟨by rw [hv.out,hi.out];simp,HB3.out⟩
     ·have hi:=Hd (show intOk ⟨k,n,p,i,s,t⟩ = true by unfold intOk;rw [decide_eq_true_iff];rw [beq_iff_eq] at hi1 h22;simp only;omega)
      go_wp2_with fail
      go_ret
      exact ⟨by rw [hv.out,hi.out];simp,HB3.out⟩
   ·have hi:=Hd (show intOk ⟨k,n,p,i,s,t⟩ = true by unfold intOk;rw [decide_eq_true_iff];rw [beq_iff_eq] at hi0;simp only;omega)
    go_wp2_with fail
    go_ret
    exact ⟨by rw [hv.out,hi.out];simp,HB3.out⟩
theorem refWell_ok (x:Nd) (w:World):Calls Tryz.prog 81 #[ndV x] w fun e w'=>e = .returned (.bool (wellN x)) ∧ Below w.heap.size w w':=by
 obtain ⟨k,n,p,i,s,t⟩:=x
 rw [well_split]
 rcases hs:sizeOk ⟨k,n,p,i,s,t⟩ with _ | _
 ·exact refWell_size k n p i s t w hs
 ·rw [Bool.true_and]
  simp only
  by_cases h1:k = 1
  ·rw [if_pos h1]
   exact refWell_num k n p i s t w hs h1
  ·rw [if_neg h1]
   exact refWell_rest k n p i s t w hs h1
end Go.Proofs.YtlcfejgjeljjdaaGreatDoor
namespace Go.Proofs.YtlcfejgjeljjdaaGreatDoor
theorem fold_max:∀ (l:List Nat) (a:Nat),l.foldl max a = max a (l.foldl max 0)
 | [],a=>by simp
 | x :: l,a=>by
   rw [List.foldl_cons,List.foldl_cons,fold_max l (max a x),fold_max l (max 0 x)]
   omega
theorem fold_rev (l:List Nat):l.reverse.foldl max 0 = l.foldl max 0:=by
 induction l with
 | nil=>rfl
 | cons x l ih=>
   rw [List.reverse_cons,List.foldl_append,ih]
   simp only [List.foldl_cons,List.foldl_nil]
   rw [fold_max l (max 0 x)]
   omega
theorem fold_le {l:List Nat} {B:Nat} (h:∀ d ∈ l,d ≤ B):l.foldl max 0 ≤ B:=by
 induction l with
 | nil=>simp
 | cons x l ih=>
   rw [List.foldl_cons,fold_max l (max 0 x)]
   have:=ih (fun d hd=>h d (List.mem_cons_of_mem _ hd))
   have:=h x List.mem_cons_self
   omega
structure DeepAt (t:List Nd) (i:Nat) (ds:List Nat):Prop where
 rest:deepN t = (deepF (t.drop i) ds).getD 0 0
 goes:∃ st f s,st.length = ds.length ∧ beginsF (t.drop i) i st = some (f,[s])
 le:∀ d ∈ ds,d ≤ i
theorem DeepAt.start {t:List Nd} {fr:List Nat} (h:beginsN t = some fr):DeepAt t 0 []:=by
 unfold beginsN at h
 split at h
 ·rename_i f s hb
  exact ⟨by rw [List.drop_zero];rfl,⟨[],f,s,rfl,by rw [List.drop_zero];exact hb⟩,fun d hd=>by cases hd⟩
 ·cases h
theorem DeepAt.step {t:List Nd} {i:Nat} {ds:List Nat} (h:DeepAt t i ds) (hi:i < t.length):0 ≤ t[i].n ∧ t[i].n.toNat ≤ ds.length ∧ DeepAt t (i + 1) (((ds.take t[i].n.toNat).foldl max 0 + 1) :: ds.drop t[i].n.toNat):=by
 obtain ⟨hr,⟨st,f,s,hl,hg⟩,hle⟩:=h
 rw [List.drop_eq_getElem_cons hi] at hr hg
 rw [beginsF] at hg
 split at hg
 ·cases hg
 ·rename_i hn
  simp only [Option.map_eq_some_iff] at hg
  obtain ⟨⟨g,st2⟩,hg,e⟩:=hg
  obtain ⟨_,rfl⟩:=Prod.mk.inj e
  refine ⟨by omega,by omega,⟨by rw [hr,deepF],⟨_,g,s,?_,hg⟩,fun d hd=>?_⟩⟩
  ·simp [hl]
  ·rcases List.mem_cons.1 hd with rfl | hd
   ·have:=fold_le (fun d hd=>hle d (List.mem_of_mem_take hd)) (l:=ds.take t[i].n.toNat)
    omega
   ·have:=hle d (List.mem_of_mem_drop hd);omega
theorem DeepAt.done {t:List Nd} {ds:List Nat} (h:DeepAt t t.length ds):∃ d,ds = [d] ∧ deepN t = d:=by
 obtain ⟨hr,⟨st,f,s,hl,hg⟩,hle⟩:=h
 rw [List.drop_length] at hr hg
 rw [beginsF] at hg
 obtain ⟨_,rfl⟩:=Prod.mk.inj (Option.some.inj hg)
 obtain ⟨d,rfl⟩:=List.length_eq_one_iff.1 (show ds.length = 1 by rw [← hl];rfl)
 exact ⟨d,rfl,by rw [hr,deepF];rfl⟩
end Go.Proofs.YtlcfejgjeljjdaaGreatDoor
namespace Go.Proofs.YtlcfejgjeljjdaaGreatDoor
open Go.RowKit
structure DeepInv (w:World) (t:List Nd) (wy:World) (g cap i:Nat) (ds:List Nat):Prop where
 at_:DeepAt t i ds
 stk:wy.ownsRow w.heap.size 3 1 (.slice (some ⟨g,0,none⟩) ds.length cap) ds.length (ds.reverse.map natV)
 stl:ds.length ≤ i
 below:Below w.heap.size w wy
theorem DeepInv.cell {w wy:World} {t:List Nd} {g cap i:Nat} {ds:List Nat} (h:DeepInv w t wy g cap i ds) {q m j:Nat} (hq:ds.length = q + m) (hj:j < m):wy.cell? ⟨g,q + j,none⟩ = some (.int .i64 (((ds.take m).reverse.getD j 0:Nat):Int)):=by
 have hl:(ds.take m).reverse.length = m:=by rw [List.length_reverse,List.length_take];omega
 rw [h.stk.cellAt (q + j) (by omega),List.getElem?_map,List.getElem?_reverse (by omega),List.getD_eq_getElem?_getD,List.getElem?_reverse (by rw [List.length_take];omega),List.getElem?_take,List.length_take,show min m ds.length - 1 - j = ds.length - 1 - (q + j) by omega,if_pos (by omega),List.getElem?_eq_getElem (by omega)]
 rfl
theorem DeepInv.node {w wy:World} {t:List Nd} {g cap i:Nat} {ds:List Nat} (h:DeepInv w t wy g cap i ds) {q m:Nat} (hq:ds.length = q + m):wy.ownsRow w.heap.size 3 1 (.slice (some ⟨g,0,none⟩) q cap) q ((ds.drop m).reverse.map natV):=by
 have:=own_take h.stk (m:=q) (by omega)
 rw [Nat.mul_one,← List.map_take,show q = ds.length - m by omega,rev_take ds m (by omega)] at this
 rw [show q = ds.length - m by omega]
 exact this
theorem DeepInv.push {w wy w4 w5:World} {t:List Nd} {g cap i d g5 cp5:Nat} {ds:List Nat} (h:DeepInv w t wy g cap i ds) {q m:Nat} (hq:ds.length = q + m) (hb:Below wy.heap.size wy w4)
 (hown:w5.ownsRow w.heap.size 3 1 (.slice (some ⟨g5,0,none⟩) (q + 1) cp5) (q + 1) ((ds.drop m).reverse.map natV ++ [.int .i64 ((d:Int) + 1)])) (hgrow:w4.grownBy w5 (some g)) (hst:DeepAt t (i + 1) ((d + 1) :: ds.drop m)):DeepInv w t w5 g5 cp5 (i + 1) ((d + 1) :: ds.drop m):=by
 obtain ⟨_,_,hg1,hg2⟩:=own_at h.stk
 have e:((d + 1) :: ds.drop m).length = q + 1:=by simp;omega
 have:=h.stl
 refine ⟨hst,?_,by rw [e];omega,(h.below.trans (hb.mono h.below.size)).grown hgrow (Nat.le_trans h.below.size hb.size) (fun k hk=>by simp only [Option.some.injEq] at hk;omega)⟩
 rw [e,List.reverse_cons,List.map_append]
 exact hown
theorem DeepInv.belowed {w wy w2:World} {t:List Nd} {g cap i:Nat} {ds:List Nat} (h:DeepInv w t wy g cap i ds) (hb:Below wy.heap.size wy w2):DeepInv w t w2 g cap i ds:=⟨h.at_,h.stk.belowed hb,h.stl,h.below.trans (hb.mono h.below.size)⟩
theorem fold_next (l:List Nat) {j:Nat} (hj:j < l.length):(l.take (j + 1)).foldl max 0 = max ((l.take j).foldl max 0) (l.getD j 0):=by
 rw [List.take_succ_eq_append_getElem hj,List.foldl_append,List.getD_eq_getElem?_getD,List.getElem?_eq_getElem hj]
 rfl
set_option maxRecDepth 100000 in
set_option maxHeartbeats 8000000 in
theorem refDeep_ok (a:Option Addr) (cap:Nat) (t:List Nd) {fr:List Nat} (w:World) (hI:IsNds w.heap.size w a t) (hl:t.length ≤ 4096) (hb:beginsN t = some fr) :
 Calls Tryz.prog 84 #[.slice a t.length cap] w fun e w'=>e = .returned (.int .i64 (deepN t:Int)) ∧ Below w.heap.size w w':=by
 have HI:=Hd hI
 have hli:(t.length:Int) ≤ 4096:=by omega
 obtain ⟨i0,hi,hz0,hz1,hz2⟩:=info_parts infoInt
 have HI0:=Hd (And.intro hi (And.intro hz0 (And.intro hz1 hz2)))
 have HB0:=Hd (show DeepInv w t (w.alloc (.cells #[] 3)) w.heap.size 0 0 [] from ⟨DeepAt.start hb,own_nil9 (Nat.le_refl _),Nat.le_refl _,ba1 _ _⟩)
 clear hi hz0 hz1 hz2 hI hb
 go_enter Tryz.func84,Tryz.ntmps84
 go_wp2_with fail
 go_loopg [3,4] t.length (fun m v3 v4 wy=>∃ (i g' c':Nat) (ds:List Nat),i ≤ t.length ∧ i + m = t.length ∧ v4 = .int .i64 (i:Int) ∧ v3 = .slice (some ⟨g',0,none⟩) ds.length c' ∧ Hid (DeepInv w t wy g' c' i ds))
 case atStart=>exact ⟨0,_,_,[],by omega,by omega,rfl,rfl,HB0⟩
 case round=>
  obtain ⟨i,g',c',ds,hi,him,rfl,rfl,HG⟩:=hrel
  have hdl:(ds.length:Int) ≤ 4096:=by have:=HG.out.stl;omega
  by_cases hlt:i < t.length
  ·obtain ⟨b,off,ha,hbl,x0,x1,_⟩:=nds_at HI.out hlt
   subst ha
   rw [← HG.out.below.cell hbl] at x1
   clear x0
   obtain ⟨hn0,hnl,hst⟩:=HG.out.at_.step hlt
   have HSt:=Hd hst
   clear hst
   generalize t[i].n = xn at *
   obtain ⟨m,rfl⟩:∃ n:Nat,xn = (n:Int):=⟨xn.toNat,by omega⟩
   rw [Int.toNat_natCast] at hnl HSt
   obtain ⟨q,hq⟩:∃ q,ds.length = q + m:=⟨ds.length - m,by omega⟩
   have hqc:q ≤ c':=by have:=(own_at HG.out.stk).1;omega
   have how:=HG.out.node hq
   obtain ⟨L,hL⟩:∃ L,L = (ds.drop m).reverse.map natV:=⟨_,rfl⟩
   rw [← hL] at how
   have HOw:=Hd how
   have HL:=Hd hL
   clear how hL
   obtain ⟨M,hM⟩:∃ M,M = (ds.take m).reverse:=⟨_,rfl⟩
   have hMl:M.length = m:=by rw [hM,List.length_reverse,List.length_take];omega
   have HM:=Hd hM
   clear hM
   go_wp2_with fail
   go_loopg [6,7] m (fun r v6 v7 wy=>∃ (p d:Nat),q ≤ p ∧ p + r = q + m ∧ v7 = .int .i64 (p:Int) ∧ v6 = .int .i64 (d:Int) ∧ Hid (d = (M.take (p - q)).foldl max 0) ∧ wy = wr)
   case atStart=>exact ⟨q,0,by omega,by omega,rfl,rfl,Hd (by simp),rfl⟩
   case round=>
    obtain ⟨p,d,hp,hpr,rfl,rfl,HD,rfl⟩:=hrel
    by_cases hpl:p < q + m
    ·have c2:=HG.out.cell hq (show p - q < m by omega)
     rw [show q + (p - q) = p by omega,← HM.out] at c2
     have HF:=Hd (fold_next M (show p - q < M.length by omega))
     obtain ⟨z,hz⟩:∃ z,z = M.getD (p - q) 0:=⟨_,rfl⟩
     rw [← hz] at c2 HF
     clear hz
     have h1:(p:Int) < (q:Int) + (m:Int):=by omega
     go_wp2_with fail
     go_roundg (q + m - (p + 1))
     case measure=>omega
     case rel=>exact ⟨p + 1,max d z,by omega,by omega,by rw [Int.natCast_add];rfl,by rw [show max (d:Int) (z:Int) = ((max d z:Nat):Int) by omega],Hd (by rw [HD.out,show p + 1 - q = p - q + 1 by omega,HF.out]),rfl⟩
    ·obtain rfl:p = q + m:=by omega
     have hd:d = (ds.take m).foldl max 0:=by
      rw [HD.out,show q + m - q = M.length by omega,List.take_length,HM.out,fold_rev]
     rw [← hd] at HSt
     have hd4:(d:Int) ≤ 4096:=by have:=HSt.out.le (d + 1) List.mem_cons_self;omega
     have HDl:=Hd (show 0 + 1 ≤ 1 ∧ q + 1 ≤ maxLen ∧ (q + 1) * 8 ≤ 140737488355328 from ⟨by omega,by unfold maxLen;omega,by omega⟩)
     clear hd
     go_wp2_with (at_builtin;go_loud (refine wpList_append_lies _ rfl _ _ _ rfl w.heap.size 3 i0 (.int .i64 0) 1 8 Tryz.underlying79 HI0.out.1 HI0.out.2.1 HI0.out.2.2.1 HI0.out.2.2.2 rfl (by decide) (.slice (some ⟨g',0,none⟩) q c') q L rfl (HOw.out.belowed (ba1 _ _)) ⟨_,0,none⟩ 1 1 [.int .i64 ((d:Int) + 1)] rfl rfl (World.news_of_block (cs:=#[.int .i64 ((d:Int) + 1)]) (heap_alloc_new _ _)) (by simp [Value.oneCell']) (by decide) HDl.out.2.1 HDl.out.2.2 (Nat.le_trans HG.out.below.size (ba1 _ _).size) _ rfl ?_))
     intro g5 cp5 w5 hown5 hgrow5 hat5 hlt5
     rw [HL.out] at hown5
     have HN5:=Hd (HG.out.push hq (ba1 _ _) hown5 hgrow5 HSt.out)
     clear hown5 hgrow5 hat5 hlt5
     go_wp2_with fail
     go_roundg (t.length - (i + 1))
     case measure=>omega
     case rel=>exact ⟨i + 1,g5,cp5,(d + 1) :: ds.drop m,by omega,by omega,by rw [Int.natCast_add];rfl,by rw [List.length_cons,List.length_drop,show ds.length - m = q by omega],HN5⟩
  ·obtain rfl:i = t.length:=by omega
   obtain ⟨d,rfl,hd⟩:=HG.out.at_.done
   have c0:=HG.out.stk.cellAt 0 (by simp)
   simp only [List.reverse_singleton,List.map_cons,List.map_nil,List.getElem?_cons_zero,natV] at c0
   go_wp2_with fail
   go_ret
   exact ⟨by rw [hd];rfl,HG.out.below⟩
set_option maxRecDepth 100000 in
set_option maxHeartbeats 8000000 in
theorem treeDeep_ok (a:Option Addr) (cap:Nat) (t:List Nd) {fr:List Nat} (w:World) (hI:IsNds w.heap.size w a t) (hl:t.length ≤ 4096) (hb:beginsN t = some fr) (_hOk:∀ x ∈ t,NdOk x) :
 Calls Tryz.prog 100 #[.slice a t.length cap] w fun e w'=>e = .returned (.int .i64 (deepN t:Int)) ∧ Below w.heap.size w w':=by
 have HI:=Hd hI
 have hli:(t.length:Int) ≤ 4096:=by omega
 obtain ⟨i0,hi,hz0,hz1,hz2⟩:=info_parts infoInt
 have HI0:=Hd (And.intro hi (And.intro hz0 (And.intro hz1 hz2)))
 have HB0:=Hd (show DeepInv w t (w.alloc (.cells #[] 3)) w.heap.size 0 0 [] from ⟨DeepAt.start hb,own_nil9 (Nat.le_refl _),Nat.le_refl _,ba1 _ _⟩)
 clear hi hz0 hz1 hz2 hI hb
 go_enter Tryz.func100,Tryz.ntmps100
 go_wp2_with fail
 go_loopg [3,13] t.length (fun m v3 v13 wy=>∃ (i g' c':Nat) (ds:List Nat),i ≤ t.length ∧ i + m = t.length ∧ v13 = .int .i64 (i:Int) ∧ v3 = .slice (some ⟨g',0,none⟩) ds.length c' ∧ Hid (DeepInv w t wy g' c' i ds))
 case atStart=>exact ⟨0,_,_,[],by omega,by omega,rfl,rfl,HB0⟩
 case round=>
  obtain ⟨i,g',c',ds,hi,him,rfl,rfl,HG⟩:=hrel
  have hdl:(ds.length:Int) ≤ 4096:=by have:=HG.out.stl;omega
  by_cases hlt:i < t.length
  ·obtain ⟨b,off,ha,hbl,x0,x1,x2,x3,x4,x5⟩:=nds_at HI.out hlt
   subst ha
   rw [← HG.out.below.cell hbl] at x0 x1 x2 x3 x4 x5
   obtain ⟨hn0,hnl,hst⟩:=HG.out.at_.step hlt
   have HSt:=Hd hst
   clear hst
   generalize t[i]'hlt = x at *
   obtain ⟨kk,xn,pp,ii,s,ty⟩:=x
   simp only at x0 x1 x2 x3 x4 x5 hn0 hnl HSt
   obtain ⟨m,rfl⟩:∃ n:Nat,xn = (n:Int):=⟨xn.toNat,by omega⟩
   go_upto_region 5 with fail
   have hx2:(wr.alloc (ndObj ⟨kk,(m:Int),pp,ii,s,ty⟩)).heap[wr.heap.size]? = some (.cells #[.int .i64 kk,.int .i64 (m:Int),.int .i64 pp,.int .i64 ii,.string s,.string ty] 42 (0,0)):=heap_alloc_new _ _
   have HG2:=Hd (HG.out.belowed (ba1 wr (ndObj ⟨kk,(m:Int),pp,ii,s,ty⟩)))
   simp only [ndObj] at hx2 HG2
   generalize wr.alloc (.cells #[.int .i64 kk,.int .i64 (m:Int),.int .i64 pp,.int .i64 ii,.string s,.string ty] 42) = w2 at *
   obtain ⟨⟨_,d1,_⟩,_⟩:=six_block hx2
   clear x0 x1 x2 x3 x4 x5 hx2 HG
   have HG:=HG2
   clear HG2
   rw [Int.toNat_natCast] at hnl HSt
   obtain ⟨q,hq⟩:∃ q,ds.length = q + m:=⟨ds.length - m,by omega⟩
   have hqc:q ≤ c':=by have:=(own_at HG.out.stk).1;omega
   have how:=HG.out.node hq
   obtain ⟨L,hL⟩:∃ L,L = (ds.drop m).reverse.map natV:=⟨_,rfl⟩
   rw [← hL] at how
   have HOw:=Hd how
   have HL:=Hd hL
   clear how hL
   obtain ⟨M,hM⟩:∃ M,M = (ds.take m).reverse:=⟨_,rfl⟩
   have hMl:M.length = m:=by rw [hM,List.length_reverse,List.length_take];omega
   have HM:=Hd hM
   clear hM
   by_cases hc:c' = q
   ·have hm0:m = 0:=by have:=(own_at HG.out.stk).1;omega
    obtain rfl:q = c':=hc.symm
    go_wp2_with fail
    go_loopg [7,26] m (fun r v7 v26 wy=>∃ (p d:Nat),p + r = m ∧ v26 = .int .i64 (p:Int) ∧ v7 = .int .i64 (d:Int) ∧ Hid (d = (M.take p).foldl max 0) ∧ wy = w2)
    case atStart=>exact ⟨0,0,by omega,rfl,rfl,Hd (by simp),rfl⟩
    case round=>
     obtain ⟨p,d,hpr,rfl,rfl,HD,rfl⟩:=hrel
     ·obtain rfl:p = m:=by omega
      have hd:d = (ds.take p).foldl max 0:=by
       rw [HD.out,List.take_of_length_le (show M.length ≤ p by omega),HM.out,fold_rev]
      rw [← hd] at HSt
      have hd4:(d:Int) ≤ 4096:=by have:=HSt.out.le (d + 1) List.mem_cons_self;omega
      have HDl:=Hd (show 0 + 1 ≤ 1 ∧ q + 1 ≤ maxLen ∧ (q + 1) * 8 ≤ 140737488355328 from ⟨by omega,by unfold maxLen;omega,by omega⟩)
      clear hd
      go_wp2_with (at_builtin;go_loud (refine wpList_append_lies _ rfl _ _ _ rfl w.heap.size 3 i0 (.int .i64 0) 1 8 Tryz.underlying79 HI0.out.1 HI0.out.2.1 HI0.out.2.2.1 HI0.out.2.2.2 rfl (by decide) (.slice (some ⟨g',0,none⟩) q q) q L rfl (HOw.out.belowed (ba1 _ _)) ⟨_,0,none⟩ 1 1 [.int .i64 ((d:Int) + 1)] rfl rfl (World.news_of_block (cs:=#[.int .i64 ((d:Int) + 1)]) (heap_alloc_new _ _)) (by simp [Value.oneCell']) (by decide) HDl.out.2.1 HDl.out.2.2 (Nat.le_trans HG.out.below.size (ba1 _ _).size) _ rfl ?_))
      intro g5 cp5 w5 hown5 hgrow5 hat5 hlt5
      rw [HL.out] at hown5
      have HN5:=Hd (HG.out.push hq (ba1 _ _) hown5 hgrow5 HSt.out)
      clear hown5 hgrow5 hat5 hlt5
      go_wp2_with fail
      go_roundg (t.length - (i + 1))
      case measure=>omega
      case rel=>exact ⟨i + 1,g5,cp5,(d + 1) :: ds.drop p,by omega,by omega,by rw [Int.natCast_add];rfl,by rw [List.length_cons,List.length_drop,show ds.length - p = q by omega],HN5⟩
   ·have hc2:q < c':=by omega
    go_wp2_with fail
    go_loopg [7,26] m (fun r v7 v26 wy=>∃ (p d:Nat),p + r = m ∧ v26 = .int .i64 (p:Int) ∧ v7 = .int .i64 (d:Int) ∧ Hid (d = (M.take p).foldl max 0) ∧ wy = w2)
    case atStart=>exact ⟨0,0,by omega,rfl,rfl,Hd (by simp),rfl⟩
    case round=>
     obtain ⟨p,d,hpr,rfl,rfl,HD,rfl⟩:=hrel
     by_cases hpl:p < m
     ·have c2:=HG.out.cell hq hpl
      rw [← HM.out] at c2
      have HF:=Hd (fold_next M (show p < M.length by omega))
      obtain ⟨z,hz⟩:∃ z,z = M.getD p 0:=⟨_,rfl⟩
      rw [← hz] at c2 HF
      clear hz
      have h1:(p:Int) < (m:Int):=by omega
      go_wp2_with fail
      go_roundg (m - (p + 1))
      case measure=>omega
      case rel=>exact ⟨p + 1,max d z,by omega,by rw [Int.natCast_add];rfl,by rw [show max (d:Int) (z:Int) = ((max d z:Nat):Int) by omega],Hd (by rw [HD.out,HF.out]),rfl⟩
     ·obtain rfl:p = m:=by omega
      have hd:d = (ds.take p).foldl max 0:=by
       rw [HD.out,List.take_of_length_le (show M.length ≤ p by omega),HM.out,fold_rev]
      rw [← hd] at HSt
      have hd4:(d:Int) ≤ 4096:=by have:=HSt.out.le (d + 1) List.mem_cons_self;omega
      have HDl:=Hd (show 0 + 1 ≤ 1 ∧ q + 1 ≤ maxLen ∧ (q + 1) * 8 ≤ 140737488355328 from ⟨by omega,by unfold maxLen;omega,by omega⟩)
      clear hd
      go_wp2_with (at_builtin;go_loud (refine wpList_append_lies _ rfl _ _ _ rfl w.heap.size 3 i0 (.int .i64 0) 1 8 Tryz.underlying79 HI0.out.1 HI0.out.2.1 HI0.out.2.2.1 HI0.out.2.2.2 rfl (by decide) (.slice (some ⟨g',0,none⟩) q c') q L rfl (HOw.out.belowed (ba1 _ _)) ⟨_,0,none⟩ 1 1 [.int .i64 ((d:Int) + 1)] rfl rfl (World.news_of_block (cs:=#[.int .i64 ((d:Int) + 1)]) (heap_alloc_new _ _)) (by simp [Value.oneCell']) (by decide) HDl.out.2.1 HDl.out.2.2 (Nat.le_trans HG.out.below.size (ba1 _ _).size) _ rfl ?_))
      intro g5 cp5 w5 hown5 hgrow5 hat5 hlt5
      rw [HL.out] at hown5
      have HN5:=Hd (HG.out.push hq (ba1 _ _) hown5 hgrow5 HSt.out)
      clear hown5 hgrow5 hat5 hlt5
      go_wp2_with fail
      go_roundg (t.length - (i + 1))
      case measure=>omega
      case rel=>exact ⟨i + 1,g5,cp5,(d + 1) :: ds.drop p,by omega,by omega,by rw [Int.natCast_add];rfl,by rw [List.length_cons,List.length_drop,show ds.length - p = q by omega],HN5⟩
  ·obtain rfl:i = t.length:=by omega
   obtain ⟨d,rfl,hd⟩:=HG.out.at_.done
   have c0:=HG.out.stk.cellAt 0 (by simp)
   simp only [List.reverse_singleton,List.map_cons,List.map_nil,List.getElem?_cons_zero,natV] at c0
   go_wp2_with fail
   go_ret
   exact ⟨by rw [hd];rfl,HG.out.below⟩
end Go.Proofs.YtlcfejgjeljjdaaGreatDoor
namespace Go.Proofs.YtlcfejgjeljjdaaGreatDoor
open Go.RowKit
set_option maxHeartbeats 4000000 in
theorem well_22 (k n p i:Int) (s t:ByteArray) (w:World) (hE:TE w) (h:sizeOk ⟨k,n,p,i,s,t⟩ = true) (hk:k = 22) (hi2:intOk ⟨k,n,p,i,s,t⟩ = true):Calls Tryz.prog 98 #[.agg #[.int .i64 k,.int .i64 n,.int .i64 p,.int .i64 i,.string s,.string t]] w fun e w'=>e = .returned (.bool (isNameB s && (typedS t && objectS t))) ∧ Below w.heap.size w w':=by
 have HE:=Hd hE
 have HA:=Hd (fun w=>arity_ok k w)
 clear hE
 have hii:=int_yes hi2
 clear hi2
 have HNm:=Hd (fun w (hK:KeysAt w)=>lexIsName_any s w hK)
 have HTy:=Hd (fun w (hE:TE w)=>typed_ok t w hE)
 have HOb0:=Hd (fun (h:typedS t = true) w=>objectS_ok t w h)
 obtain ⟨a1,a2,a3,a4,a5⟩:=size_yes h
 clear h
 generalize arityN k = ar at *
 obtain ⟨lo,hi⟩:=ar
 simp only at a1 a2 a3 HA
 have g1:(k == 1) = false:=by rw [hk];rfl
 have g2:(k == 2) = false:=by rw [hk];rfl
 have g3:(k == 3) = false:=by rw [hk];rfl
 have g13:(k == 13) = false:=by rw [hk];rfl
 have g14:(k == 14) = false:=by rw [hk];rfl
 have g22:(k == 22) = true:=by rw [hk];rfl
 have g4:(k == 4) = false:=by rw [hk];rfl
 have g5:(k == 5) = false:=by rw [hk];rfl
 have g6:(k == 6) = false:=by rw [hk];rfl
 have g7:(k == 7) = false:=by rw [hk];rfl
 have g8:(k == 8) = false:=by rw [hk];rfl
 have g15:(k == 15) = false:=by rw [hk];rfl
 have g17:(k == 17) = false:=by rw [hk];rfl
 have g22n:(k != 22) = false:=by rw [hk];rfl
 clear hk
 generalize isNameB s = b at *
 cases b
 case' true=>
  rcases hty:typedS t with _ | _
  case' true=>have HOb:=Hd (HOb0.out hty)
  all_goals
   rw [hty] at HTy
   clear hty HOb0
 case' false=>clear HTy HOb0
 all_goals
  rcases hii with g44 | ⟨g44,g46,g45⟩
 case' false.inl=>have g0:(i == 0) = true:=by rw [g44];rfl
 case' true.false.inl=>have g0:(i == 0) = true:=by rw [g44];rfl
 case' true.true.inl=>have g0:(i == 0) = true:=by rw [g44];rfl
 case' false.inr=>have g0:(i == 0) = false:=by simpa using g44
 case' true.false.inr=>have g0:(i == 0) = false:=by simpa using g44
 case' true.true.inr=>have g0:(i == 0) = false:=by simpa using g44
 case' false.inr=>have g1':(i == 1) = true:=by rw [g45];rfl
 case' true.false.inr=>have g1':(i == 1) = true:=by rw [g45];rfl
 case' true.true.inr=>have g1':(i == 1) = true:=by rw [g45];rfl
 case' false.inl=>have g0n:(i != 0) = false:=by rw [g44];rfl
 case' true.false.inl=>have g0n:(i != 0) = false:=by rw [g44];rfl
 case' true.true.inl=>have g0n:(i != 0) = false:=by rw [g44];rfl
 case' false.inr=>have g1n:(i != 1) = false:=by rw [g45];rfl
 case' true.false.inr=>have g1n:(i != 1) = false:=by rw [g45];rfl
 case' true.true.inr=>have g1n:(i != 1) = false:=by rw [g45];rfl
 case' false.inr=>clear g45 g46
 case' true.false.inr=>clear g45 g46
 case' true.true.inr=>clear g45 g46
 all_goals
  clear g44
  go_enter Tryz.func98,Tryz.ntmps98
  go_upto_region 1 with fail
  have hx1:(w.alloc (ndObj ⟨k,n,p,i,s,t⟩)).heap[w.heap.size]? = some (.cells #[.int .i64 k,.int .i64 n,.int .i64 p,.int .i64 i,.string s,.string t] 42 (0,0)):=heap_alloc_new _ _
  have hb1:Below w.heap.size w (w.alloc (ndObj ⟨k,n,p,i,s,t⟩)):=(Below.refl _ _).alloc (Nat.le_refl _) _
  simp only [ndObj] at hx1 hb1
  generalize w.alloc (.cells #[.int .i64 k,.int .i64 n,.int .i64 p,.int .i64 i,.string s,.string t] 42) = w1 at *
  have hz1:=lt_of_heap hx1
  obtain ⟨⟨d0,d1,d2,d3,d4,d5⟩,_⟩:=six_block hx1
  have HX1:=Hd hx1
  have HB1:=Hd hb1
  clear hx1 hb1
  have HN1:=Hd (HNm.out w1 ((HE.out.below HB1.out).keys))
  go_wp2_with (first | (go_at_call 123;(with_reducible refine (HA.out _).mono ?_);rintro e w2 ⟨rfl,hw2⟩;subst w2) | (go_at_call 125;(with_reducible refine HN1.out.mono ?_);rintro e w2 ⟨rfl,hb2⟩;have hx2:=(hb2.block _ hz1).trans HX1.out;obtain ⟨⟨e0,e1,e2,e3,e4,e5⟩,_⟩:=six_block hx2;have HX2:=Hd hx2;have HB2:=Ht HB1 hb2;clear hx2;clear hb2) | (go_at_call 126;(with_reducible refine (HTy.out w2 (HE.out.below HB2.out)).mono ?_);rintro e w3 ⟨rfl,hb3⟩;have hx3:=(hb3.block _ (lt_of_heap HX2.out)).trans HX2.out;obtain ⟨⟨y0,y1,y2,y3,y4,y5⟩,_⟩:=six_block hx3;have HB3:=Ht HB2 hb3;clear hx3 hb3) | (go_at_call 127;(with_reducible refine (HOb.out _).mono ?_);rintro e w4 ⟨rfl,hw4⟩;subst w4))
  all_goals go_ret
  all_goals (first | exact ⟨by simp,HB3.out⟩ | exact ⟨by simp_all,HB3.out⟩ | exact ⟨rfl,HB2.out⟩)
theorem well_ok (x:Nd) (w:World) (hE:TE w):Calls Tryz.prog 98 #[ndV x] w fun e w'=>e = .returned (.bool (wellN x)) ∧ Below w.heap.size w w':=by
 obtain ⟨k,n,p,i,s,t⟩:=x
 rw [well_split]
 rcases hs:sizeOk ⟨k,n,p,i,s,t⟩ with _ | _
 ·exact well_size k n p i s t w hE hs
 ·rw [Bool.true_and]
  simp only
  by_cases h1:k = 1
  ·rw [if_pos h1]
   exact well_num k n p i s t w hE hs h1
  ·rw [if_neg h1]
   rcases hi:intOk ⟨k,n,p,i,s,t⟩ with _ | _
   ·exact well_int k n p i s t w hE hs h1 hi
   ·rw [Bool.true_and]
    rcases body_kinds k with h | h | h | h | h | h
    ·subst h;rw [body_2];exact well_2 2 n p i s t w hE hs rfl hi
    ·rw [body_3 h];rcases h with h | h | h;exact well_3_3 k n p i s t w hE hs h hi;exact well_3_13 k n p i s t w hE hs h hi;exact well_3_14 k n p i s t w hE hs h hi
    ·subst h;rw [body_22];exact well_22 22 n p i s t w hE hs rfl hi
    ·rw [body_4 h];rcases h with h | h | h | h | h;exact well_4_4 k n p i s t w hE hs h hi;exact well_4_5 k n p i s t w hE hs h hi;exact well_4_6 k n p i s t w hE hs h hi;exact well_4_7 k n p i s t w hE hs h hi;exact well_4_8 k n p i s t w hE hs h hi
    ·rw [body_15 h];rcases h with h | h;exact well_15_15 k n p i s t w hE hs h hi;exact well_15_17 k n p i s t w hE hs h hi
    ·rw [body_x h];exact well_x k n p i s t w hE hs h1 h hi
end Go.Proofs.YtlcfejgjeljjdaaGreatDoor
