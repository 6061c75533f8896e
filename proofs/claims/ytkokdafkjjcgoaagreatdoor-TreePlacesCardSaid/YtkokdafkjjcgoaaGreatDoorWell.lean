/- A node that is right by itself: the program. -/
import Derived.Test.YtkokdafkjjcgoaaGreatDoorMg20
namespace Go.Proofs.YtkokdafkjjcgoaaGreatDoor
open Go.RowKit
theorem well_split (x:Nd):wellN x = (sizeOk x && (if x.kind = 1 then numberN x && noText x.text else intOk x && bodyOk x)):=rfl
theorem size_no (k n p i:Int) (s t:ByteArray) (h:sizeOk ⟨k,n,p,i,s,t⟩ = false) :
 (arityN k).1 < 0 ∨ (0 ≤ (arityN k).1 ∧ n < (arityN k).1) ∨ (0 ≤ (arityN k).1 ∧ (arityN k).1 ≤ n ∧ (arityN k).2 < n) ∨ (0 ≤ (arityN k).1 ∧ (arityN k).1 ≤ n ∧ n ≤ (arityN k).2 ∧ p < 0) ∨ (0 ≤ (arityN k).1 ∧ (arityN k).1 ≤ n ∧ n ≤ (arityN k).2 ∧ 0 ≤ p ∧ 65536 < p):=by
 unfold sizeOk at h
 simp only [decide_eq_false_iff_not] at h
 omega
theorem size_yes {k n p i:Int} {s t:ByteArray} (h:sizeOk ⟨k,n,p,i,s,t⟩ = true):0 ≤ (arityN k).1 ∧ (arityN k).1 ≤ n ∧ n ≤ (arityN k).2 ∧ 0 ≤ p ∧ p ≤ 65536:=by
 unfold sizeOk at h
 simpa using h
theorem int_no {k n p i:Int} {s t:ByteArray} (h:intOk ⟨k,n,p,i,s,t⟩ = false):i ≠ 0 ∧ (k ≠ 22 ∨ i ≠ 1):=by
 unfold intOk at h
 simp only [decide_eq_false_iff_not] at h
 omega
theorem int_yes {k n p i:Int} {s t:ByteArray} (h:intOk ⟨k,n,p,i,s,t⟩ = true):i = 0 ∨ (i ≠ 0 ∧ k = 22 ∧ i = 1):=by
 unfold intOk at h
 simp only [decide_eq_true_eq] at h
 omega
theorem body_2 (n p i:Int) (s t:ByteArray):bodyOk ⟨2,n,p,i,s,t⟩ = (decide (s.size ≤ 4096) && noText t):=rfl
theorem body_3 {k:Int} (h:k = 3 ∨ k = 13 ∨ k = 14) (n p i:Int) (s t:ByteArray):bodyOk ⟨k,n,p,i,s,t⟩ = (isNameB s && noText t):=by rcases h with rfl | rfl | rfl <;> rfl
theorem body_22 (n p i:Int) (s t:ByteArray):bodyOk ⟨22,n,p,i,s,t⟩ = (isNameB s && (typedS t && objectS t)):=rfl
theorem body_4 {k:Int} (h:k = 4 ∨ k = 5 ∨ k = 6 ∨ k = 7 ∨ k = 8) (n p i:Int) (s t:ByteArray):bodyOk ⟨k,n,p,i,s,t⟩ = (Lib.containsS (marksN k) s && noText t):=by rcases h with rfl | rfl | rfl | rfl | rfl <;> rfl
theorem body_15 {k:Int} (h:k = 15 ∨ k = 17) (n p i:Int) (s t:ByteArray):bodyOk ⟨k,n,p,i,s,t⟩ = (noText s && typedS t):=by rcases h with rfl | rfl <;> rfl
theorem body_x {k:Int} (h:k ≠ 2 ∧ k ≠ 3 ∧ k ≠ 13 ∧ k ≠ 14 ∧ k ≠ 22 ∧ k ≠ 4 ∧ k ≠ 5 ∧ k ≠ 6 ∧ k ≠ 7 ∧ k ≠ 8 ∧ k ≠ 15 ∧ k ≠ 17) (n p i:Int) (s t:ByteArray):bodyOk ⟨k,n,p,i,s,t⟩ = (noText s && noText t):=by
 unfold bodyOk
 simp only
 rw [if_neg (by omega),if_neg (by omega),if_neg (by omega),if_neg (by omega),if_neg (by omega)]
theorem body_kinds (k:Int):k = 2 ∨ (k = 3 ∨ k = 13 ∨ k = 14) ∨ k = 22 ∨ (k = 4 ∨ k = 5 ∨ k = 6 ∨ k = 7 ∨ k = 8) ∨ (k = 15 ∨ k = 17) ∨ (k ≠ 2 ∧ k ≠ 3 ∧ k ≠ 13 ∧ k ≠ 14 ∧ k ≠ 22 ∧ k ≠ 4 ∧ k ≠ 5 ∧ k ≠ 6 ∧ k ≠ 7 ∧ k ≠ 8 ∧ k ≠ 15 ∧ k ≠ 17):=by omega
set_option maxHeartbeats 4000000 in
theorem well_size (k n p i:Int) (s t:ByteArray) (w:World) (hE:TE w) (h:sizeOk ⟨k,n,p,i,s,t⟩ = false):Calls Tryz.prog 83 #[.agg #[.int .i64 k,.int .i64 n,.int .i64 p,.int .i64 i,.string s,.string t]] w fun e w'=>e = .returned (.bool false) ∧ Below w.heap.size w w':=by
 have HE:=Hd hE
 have HA:=Hd (fun w=>arity_ok k w)
 clear hE
 have hc:=size_no k n p i s t h
 clear h
 generalize arityN k = ar at *
 obtain ⟨lo,hi⟩:=ar
 simp only at hc HA
 rcases hc with a1 | ⟨a1,a2⟩ | ⟨a1,a2,a3⟩ | ⟨a1,a2,a3,a4⟩ | ⟨a1,a2,a3,a4,a5⟩
 all_goals
  go_enter Tryz.func83,Tryz.ntmps83
  go_upto_region 1 with fail
  have hx1:(w.alloc (ndObj ⟨k,n,p,i,s,t⟩)).heap[w.heap.size]? = some (.cells #[.int .i64 k,.int .i64 n,.int .i64 p,.int .i64 i,.string s,.string t] 36 (0,0)):=heap_alloc_new _ _
  have hb1:Below w.heap.size w (w.alloc (ndObj ⟨k,n,p,i,s,t⟩)):=(Below.refl _ _).alloc (Nat.le_refl _) _
  simp only [ndObj] at hx1 hb1
  generalize w.alloc (.cells #[.int .i64 k,.int .i64 n,.int .i64 p,.int .i64 i,.string s,.string t] 36) = w1 at *
  have hz1:=lt_of_heap hx1
  obtain ⟨⟨d0,d1,d2,d3,d4,d5⟩,_⟩:=six_block hx1
  have HX1:=Hd hx1
  have HB1:=Hd hb1
  clear hx1 hb1
  go_wp2_with (first | (go_at_call 130;(with_reducible refine (HA.out _).mono ?_);rintro e w2 ⟨rfl,hw2⟩;subst w2))
  go_ret
  exact ⟨rfl,HB1.out⟩
set_option maxHeartbeats 4000000 in
theorem well_num (k n p i:Int) (s t:ByteArray) (w:World) (hE:TE w) (h:sizeOk ⟨k,n,p,i,s,t⟩ = true) (hk:k = 1):Calls Tryz.prog 83 #[.agg #[.int .i64 k,.int .i64 n,.int .i64 p,.int .i64 i,.string s,.string t]] w fun e w'=>e = .returned (.bool (numberN ⟨k,n,p,i,s,t⟩ && noText s)) ∧ Below w.heap.size w w':=by
 have HE:=Hd hE
 have HA:=Hd (fun w=>arity_ok k w)
 clear hE
 obtain ⟨a1,a2,a3,a4,a5⟩:=size_yes h
 clear h
 generalize arityN k = ar at *
 obtain ⟨lo,hi⟩:=ar
 simp only at a1 a2 a3 HA
 have g1:(k == 1) = true:=by rw [hk];rfl
 have g2:(k == 2) = false:=by rw [hk];rfl
 have g3:(k == 3) = false:=by rw [hk];rfl
 have g13:(k == 13) = false:=by rw [hk];rfl
 have g14:(k == 14) = false:=by rw [hk];rfl
 have g22:(k == 22) = false:=by rw [hk];rfl
 have g4:(k == 4) = false:=by rw [hk];rfl
 have g5:(k == 5) = false:=by rw [hk];rfl
 have g6:(k == 6) = false:=by rw [hk];rfl
 have g7:(k == 7) = false:=by rw [hk];rfl
 have g8:(k == 8) = false:=by rw [hk];rfl
 have g15:(k == 15) = false:=by rw [hk];rfl
 have g17:(k == 17) = false:=by rw [hk];rfl
 have g22n:(k != 22) = true:=by rw [hk];rfl
 have HN:=Hd (fun w=>ndNumber_ok k n p i s t w)
 have he:=empty_is s
 clear hk
 generalize numberN ⟨k,n,p,i,s,t⟩ = b at *
 generalize noText s = c at *
 cases b
 all_goals
  go_enter Tryz.func83,Tryz.ntmps83
  go_upto_region 1 with fail
  have hx1:(w.alloc (ndObj ⟨k,n,p,i,s,t⟩)).heap[w.heap.size]? = some (.cells #[.int .i64 k,.int .i64 n,.int .i64 p,.int .i64 i,.string s,.string t] 36 (0,0)):=heap_alloc_new _ _
  have hb1:Below w.heap.size w (w.alloc (ndObj ⟨k,n,p,i,s,t⟩)):=(Below.refl _ _).alloc (Nat.le_refl _) _
  simp only [ndObj] at hx1 hb1
  generalize w.alloc (.cells #[.int .i64 k,.int .i64 n,.int .i64 p,.int .i64 i,.string s,.string t] 36) = w1 at *
  have hz1:=lt_of_heap hx1
  obtain ⟨⟨d0,d1,d2,d3,d4,d5⟩,_⟩:=six_block hx1
  have HX1:=Hd hx1
  have HB1:=Hd hb1
  clear hx1 hb1
  go_wp2_with (first | (go_at_call 130;(with_reducible refine (HA.out _).mono ?_);rintro e w2 ⟨rfl,hw2⟩;subst w2) | (go_at_call 131;(with_reducible refine (HN.out _).mono ?_);rintro e w2 ⟨rfl,hb2⟩;have hx2:=(hb2.block _ hz1).trans HX1.out;obtain ⟨⟨e0,e1,e2,e3,e4,e5⟩,_⟩:=six_block hx2;have HX2:=Hd hx2;have HB2:=Ht HB1 hb2;clear hx2;clear hb2))
  go_ret
  exact ⟨rfl,HB2.out⟩
set_option maxHeartbeats 4000000 in
theorem well_int (k n p i:Int) (s t:ByteArray) (w:World) (hE:TE w) (h:sizeOk ⟨k,n,p,i,s,t⟩ = true) (hk:k ≠ 1) (hi2:intOk ⟨k,n,p,i,s,t⟩ = false):Calls Tryz.prog 83 #[.agg #[.int .i64 k,.int .i64 n,.int .i64 p,.int .i64 i,.string s,.string t]] w fun e w'=>e = .returned (.bool false) ∧ Below w.heap.size w w':=by
 have HE:=Hd hE
 have HA:=Hd (fun w=>arity_ok k w)
 clear hE
 obtain ⟨hi0,hi1⟩:=int_no hi2
 have g1:(k == 1) = false:=by simpa using hk
 have g2:(i == 0) = false:=by simpa using hi0
 have g2n:(i != 0) = true:=by simpa using hi0
 obtain ⟨a1,a2,a3,a4,a5⟩:=size_yes h
 clear h
 generalize arityN k = ar at *
 obtain ⟨lo,hi⟩:=ar
 simp only at a1 a2 a3 HA
 clear hi2 hk hi0
 by_cases h22:k = 22
 case' pos=>
  have g3:(i == 1) = false:=by rcases hi1 with h | h;exact absurd h22 h;simpa using h
  have g3n:(i != 1) = true:=by rw [bne,g3];rfl
  have g22n:(k != 22) = false:=by rw [h22];rfl
  have g22:(k == 22) = true:=by simpa using h22
  clear hi1 h22
 case' neg=>
  have g3:(k == 22) = false:=by simpa using h22
  have g22n:(k != 22) = true:=by rw [bne,g3];rfl
  clear hi1 h22
 all_goals
  go_enter Tryz.func83,Tryz.ntmps83
  go_upto_region 1 with fail
  have hx1:(w.alloc (ndObj ⟨k,n,p,i,s,t⟩)).heap[w.heap.size]? = some (.cells #[.int .i64 k,.int .i64 n,.int .i64 p,.int .i64 i,.string s,.string t] 36 (0,0)):=heap_alloc_new _ _
  have hb1:Below w.heap.size w (w.alloc (ndObj ⟨k,n,p,i,s,t⟩)):=(Below.refl _ _).alloc (Nat.le_refl _) _
  simp only [ndObj] at hx1 hb1
  generalize w.alloc (.cells #[.int .i64 k,.int .i64 n,.int .i64 p,.int .i64 i,.string s,.string t] 36) = w1 at *
  have hz1:=lt_of_heap hx1
  obtain ⟨⟨d0,d1,d2,d3,d4,d5⟩,_⟩:=six_block hx1
  have HX1:=Hd hx1
  have HB1:=Hd hb1
  clear hx1 hb1
  go_wp2_with (first | (go_at_call 130;(with_reducible refine (HA.out _).mono ?_);rintro e w2 ⟨rfl,hw2⟩;subst w2))
  go_ret
  exact ⟨rfl,HB1.out⟩
set_option maxHeartbeats 4000000 in
theorem well_2 (k n p i:Int) (s t:ByteArray) (w:World) (hE:TE w) (h:sizeOk ⟨k,n,p,i,s,t⟩ = true) (hk:k = 2) (hi2:intOk ⟨k,n,p,i,s,t⟩ = true):Calls Tryz.prog 83 #[.agg #[.int .i64 k,.int .i64 n,.int .i64 p,.int .i64 i,.string s,.string t]] w fun e w'=>e = .returned (.bool (decide (s.size ≤ 4096) && noText t)) ∧ Below w.heap.size w w':=by
 have HE:=Hd hE
 have HA:=Hd (fun w=>arity_ok k w)
 clear hE
 have hii:=int_yes hi2
 clear hi2
 have he:=empty_is t
 obtain ⟨a1,a2,a3,a4,a5⟩:=size_yes h
 clear h
 generalize arityN k = ar at *
 obtain ⟨lo,hi⟩:=ar
 simp only at a1 a2 a3 HA
 have hi0:i = 0:=by rcases hii with h | ⟨_,h,_⟩;exact h;omega
 have g0:(i == 0) = true:=by rw [hi0];rfl
 have g0n:(i != 0) = false:=by rw [hi0];rfl
 clear hii hi0
 have g1:(k == 1) = false:=by rw [hk];rfl
 have g2:(k == 2) = true:=by rw [hk];rfl
 have g3:(k == 3) = false:=by rw [hk];rfl
 have g13:(k == 13) = false:=by rw [hk];rfl
 have g14:(k == 14) = false:=by rw [hk];rfl
 have g22:(k == 22) = false:=by rw [hk];rfl
 have g4:(k == 4) = false:=by rw [hk];rfl
 have g5:(k == 5) = false:=by rw [hk];rfl
 have g6:(k == 6) = false:=by rw [hk];rfl
 have g7:(k == 7) = false:=by rw [hk];rfl
 have g8:(k == 8) = false:=by rw [hk];rfl
 have g15:(k == 15) = false:=by rw [hk];rfl
 have g17:(k == 17) = false:=by rw [hk];rfl
 have g22n:(k != 22) = true:=by rw [hk];rfl
 clear hk
 generalize noText t = c at *
 by_cases hs:s.size ≤ 4096
 case' pos=>
  have g4:(s.size:Int) ≤ 4096:=by omega
  rw [decide_eq_true hs]
  clear hs
 case' neg=>
  have g4:(4096:Int) < s.size:=by omega
  rw [decide_eq_false hs]
  clear hs
 all_goals
  go_enter Tryz.func83,Tryz.ntmps83
  go_upto_region 1 with fail
  have hx1:(w.alloc (ndObj ⟨k,n,p,i,s,t⟩)).heap[w.heap.size]? = some (.cells #[.int .i64 k,.int .i64 n,.int .i64 p,.int .i64 i,.string s,.string t] 36 (0,0)):=heap_alloc_new _ _
  have hb1:Below w.heap.size w (w.alloc (ndObj ⟨k,n,p,i,s,t⟩)):=(Below.refl _ _).alloc (Nat.le_refl _) _
  simp only [ndObj] at hx1 hb1
  generalize w.alloc (.cells #[.int .i64 k,.int .i64 n,.int .i64 p,.int .i64 i,.string s,.string t] 36) = w1 at *
  have hz1:=lt_of_heap hx1
  obtain ⟨⟨d0,d1,d2,d3,d4,d5⟩,_⟩:=six_block hx1
  have HX1:=Hd hx1
  have HB1:=Hd hb1
  clear hx1 hb1
  go_wp2_with (first | (go_at_call 130;(with_reducible refine (HA.out _).mono ?_);rintro e w2 ⟨rfl,hw2⟩;subst w2))
  go_ret
  exact ⟨rfl,HB1.out⟩
set_option maxHeartbeats 4000000 in
theorem well_3 (k n p i:Int) (s t:ByteArray) (w:World) (hE:TE w) (h:sizeOk ⟨k,n,p,i,s,t⟩ = true) (hk:k = 3 ∨ k = 13 ∨ k = 14) (hi2:intOk ⟨k,n,p,i,s,t⟩ = true):Calls Tryz.prog 83 #[.agg #[.int .i64 k,.int .i64 n,.int .i64 p,.int .i64 i,.string s,.string t]] w fun e w'=>e = .returned (.bool (isNameB s && noText t)) ∧ Below w.heap.size w w':=by
 have HE:=Hd hE
 have HA:=Hd (fun w=>arity_ok k w)
 clear hE
 have hii:=int_yes hi2
 clear hi2
 have he:=empty_is t
 have HNm:=Hd (fun w (hK:KeysAt w)=>lexIsName_any s w hK)
 obtain ⟨a1,a2,a3,a4,a5⟩:=size_yes h
 clear h
 generalize arityN k = ar at *
 obtain ⟨lo,hi⟩:=ar
 simp only at a1 a2 a3 HA
 have hi0:i = 0:=by rcases hii with h | ⟨_,h,_⟩;exact h;omega
 have g0:(i == 0) = true:=by rw [hi0];rfl
 have g0n:(i != 0) = false:=by rw [hi0];rfl
 clear hii hi0
 rcases hk with hk | hk | hk
 all_goals
  have gg:=fun m:Int=>congrArg (fun x:Int=>x == m) hk
  have gn:=fun m:Int=>congrArg (fun x:Int=>x != m) hk
  clear hk
  generalize noText t = c at *
  generalize isNameB s = b at *
  cases b
  all_goals
   go_enter Tryz.func83,Tryz.ntmps83
   go_upto_region 1 with fail
   have hx1:(w.alloc (ndObj ⟨k,n,p,i,s,t⟩)).heap[w.heap.size]? = some (.cells #[.int .i64 k,.int .i64 n,.int .i64 p,.int .i64 i,.string s,.string t] 36 (0,0)):=heap_alloc_new _ _
   have hb1:Below w.heap.size w (w.alloc (ndObj ⟨k,n,p,i,s,t⟩)):=(Below.refl _ _).alloc (Nat.le_refl _) _
   simp only [ndObj] at hx1 hb1
   generalize w.alloc (.cells #[.int .i64 k,.int .i64 n,.int .i64 p,.int .i64 i,.string s,.string t] 36) = w1 at *
   have hz1:=lt_of_heap hx1
   obtain ⟨⟨d0,d1,d2,d3,d4,d5⟩,_⟩:=six_block hx1
   have HX1:=Hd hx1
   have HB1:=Hd hb1
   clear hx1 hb1
   have HN1:=Hd (HNm.out w1 ((HE.out.below HB1.out).keys))
   go_wp2_with (first | (go_at_call 130;(with_reducible refine (HA.out _).mono ?_);rintro e w2 ⟨rfl,hw2⟩;subst w2) | (go_at_call 124;(with_reducible refine HN1.out.mono ?_);rintro e w2 ⟨rfl,hb2⟩;have hx2:=(hb2.block _ hz1).trans HX1.out;obtain ⟨⟨e0,e1,e2,e3,e4,e5⟩,_⟩:=six_block hx2;have HX2:=Hd hx2;have HB2:=Ht HB1 hb2;clear hx2;clear hb2))
   go_ret
   exact ⟨rfl,HB2.out⟩
set_option maxHeartbeats 4000000 in
theorem well_4 (k n p i:Int) (s t:ByteArray) (w:World) (hE:TE w) (h:sizeOk ⟨k,n,p,i,s,t⟩ = true) (hk:k = 4 ∨ k = 5 ∨ k = 6 ∨ k = 7 ∨ k = 8) (hi2:intOk ⟨k,n,p,i,s,t⟩ = true):Calls Tryz.prog 83 #[.agg #[.int .i64 k,.int .i64 n,.int .i64 p,.int .i64 i,.string s,.string t]] w fun e w'=>e = .returned (.bool (Lib.containsS (marksN k) s && noText t)) ∧ Below w.heap.size w w':=by
 have HE:=Hd hE
 have HA:=Hd (fun w=>arity_ok k w)
 clear hE
 have hii:=int_yes hi2
 clear hi2
 have he:=empty_is t
 have HMk:=Hd (fun w=>marked_ok k s w (by omega))
 obtain ⟨a1,a2,a3,a4,a5⟩:=size_yes h
 clear h
 generalize arityN k = ar at *
 obtain ⟨lo,hi⟩:=ar
 simp only at a1 a2 a3 HA
 have hi0:i = 0:=by rcases hii with h | ⟨_,h,_⟩;exact h;omega
 have g0:(i == 0) = true:=by rw [hi0];rfl
 have g0n:(i != 0) = false:=by rw [hi0];rfl
 clear hii hi0
 rcases hk with hk | hk | hk | hk | hk
 all_goals
  have gg:=fun m:Int=>congrArg (fun x:Int=>x == m) hk
  have gn:=fun m:Int=>congrArg (fun x:Int=>x != m) hk
  clear hk
  generalize noText t = c at *
  generalize Lib.containsS (marksN k) s = b at *
  cases b
  all_goals
   go_enter Tryz.func83,Tryz.ntmps83
   go_upto_region 1 with fail
   have hx1:(w.alloc (ndObj ⟨k,n,p,i,s,t⟩)).heap[w.heap.size]? = some (.cells #[.int .i64 k,.int .i64 n,.int .i64 p,.int .i64 i,.string s,.string t] 36 (0,0)):=heap_alloc_new _ _
   have hb1:Below w.heap.size w (w.alloc (ndObj ⟨k,n,p,i,s,t⟩)):=(Below.refl _ _).alloc (Nat.le_refl _) _
   simp only [ndObj] at hx1 hb1
   generalize w.alloc (.cells #[.int .i64 k,.int .i64 n,.int .i64 p,.int .i64 i,.string s,.string t] 36) = w1 at *
   have hz1:=lt_of_heap hx1
   obtain ⟨⟨d0,d1,d2,d3,d4,d5⟩,_⟩:=six_block hx1
   have HX1:=Hd hx1
   have HB1:=Hd hb1
   clear hx1 hb1
   go_wp2_with (first | (go_at_call 130;(with_reducible refine (HA.out _).mono ?_);rintro e w2 ⟨rfl,hw2⟩;subst w2) | (go_at_call 133;(with_reducible refine (HMk.out _).mono ?_);rintro e w2 ⟨rfl,hb2⟩;have hx2:=(hb2.block _ hz1).trans HX1.out;obtain ⟨⟨e0,e1,e2,e3,e4,e5⟩,_⟩:=six_block hx2;have HX2:=Hd hx2;have HB2:=Ht HB1 hb2;clear hx2;clear hb2))
   go_ret
   exact ⟨rfl,HB2.out⟩
set_option maxHeartbeats 4000000 in
theorem well_15 (k n p i:Int) (s t:ByteArray) (w:World) (hE:TE w) (h:sizeOk ⟨k,n,p,i,s,t⟩ = true) (hk:k = 15 ∨ k = 17) (hi2:intOk ⟨k,n,p,i,s,t⟩ = true):Calls Tryz.prog 83 #[.agg #[.int .i64 k,.int .i64 n,.int .i64 p,.int .i64 i,.string s,.string t]] w fun e w'=>e = .returned (.bool (noText s && typedS t)) ∧ Below w.heap.size w w':=by
 have HE:=Hd hE
 have HA:=Hd (fun w=>arity_ok k w)
 clear hE
 have hii:=int_yes hi2
 clear hi2
 have he:=empty_is s
 have HTy:=Hd (fun w (hE:TE w)=>typed_ok t w hE)
 obtain ⟨a1,a2,a3,a4,a5⟩:=size_yes h
 clear h
 generalize arityN k = ar at *
 obtain ⟨lo,hi⟩:=ar
 simp only at a1 a2 a3 HA
 have hi0:i = 0:=by rcases hii with h | ⟨_,h,_⟩;exact h;omega
 have g0:(i == 0) = true:=by rw [hi0];rfl
 have g0n:(i != 0) = false:=by rw [hi0];rfl
 clear hii hi0
 rcases hk with hk | hk
 all_goals
  have gg:=fun m:Int=>congrArg (fun x:Int=>x == m) hk
  have gn:=fun m:Int=>congrArg (fun x:Int=>x != m) hk
  clear hk
  generalize noText s = c at *
  generalize typedS t = b at *
  cases c
  all_goals
   go_enter Tryz.func83,Tryz.ntmps83
   go_upto_region 1 with fail
   have hx1:(w.alloc (ndObj ⟨k,n,p,i,s,t⟩)).heap[w.heap.size]? = some (.cells #[.int .i64 k,.int .i64 n,.int .i64 p,.int .i64 i,.string s,.string t] 36 (0,0)):=heap_alloc_new _ _
   have hb1:Below w.heap.size w (w.alloc (ndObj ⟨k,n,p,i,s,t⟩)):=(Below.refl _ _).alloc (Nat.le_refl _) _
   simp only [ndObj] at hx1 hb1
   generalize w.alloc (.cells #[.int .i64 k,.int .i64 n,.int .i64 p,.int .i64 i,.string s,.string t] 36) = w1 at *
   have hz1:=lt_of_heap hx1
   obtain ⟨⟨d0,d1,d2,d3,d4,d5⟩,_⟩:=six_block hx1
   have HX1:=Hd hx1
   have HB1:=Hd hb1
   clear hx1 hb1
   have HT1:=Hd (HTy.out w1 (HE.out.below HB1.out))
   go_wp2_with (first | (go_at_call 130;(with_reducible refine (HA.out _).mono ?_);rintro e w2 ⟨rfl,hw2⟩;subst w2) | (go_at_call 132;(with_reducible refine HT1.out.mono ?_);rintro e w2 ⟨rfl,hb2⟩;have hx2:=(hb2.block _ hz1).trans HX1.out;obtain ⟨⟨e0,e1,e2,e3,e4,e5⟩,_⟩:=six_block hx2;have HX2:=Hd hx2;have HB2:=Ht HB1 hb2;clear hx2;clear hb2))
   go_ret
   first | exact ⟨rfl,HB2.out⟩ | exact ⟨rfl,HB1.out⟩
set_option maxHeartbeats 4000000 in
theorem well_x (k n p i:Int) (s t:ByteArray) (w:World) (hE:TE w) (h:sizeOk ⟨k,n,p,i,s,t⟩ = true) (hk1:k ≠ 1) (hk:k ≠ 2 ∧ k ≠ 3 ∧ k ≠ 13 ∧ k ≠ 14 ∧ k ≠ 22 ∧ k ≠ 4 ∧ k ≠ 5 ∧ k ≠ 6 ∧ k ≠ 7 ∧ k ≠ 8 ∧ k ≠ 15 ∧ k ≠ 17) (hi2:intOk ⟨k,n,p,i,s,t⟩ = true):Calls Tryz.prog 83 #[.agg #[.int .i64 k,.int .i64 n,.int .i64 p,.int .i64 i,.string s,.string t]] w fun e w'=>e = .returned (.bool (noText s && noText t)) ∧ Below w.heap.size w w':=by
 have HE:=Hd hE
 have HA:=Hd (fun w=>arity_ok k w)
 clear hE
 have hii:=int_yes hi2
 clear hi2
 have he:=empty_is s
 have he2:=empty_is t
 obtain ⟨a1,a2,a3,a4,a5⟩:=size_yes h
 clear h
 generalize arityN k = ar at *
 obtain ⟨lo,hi⟩:=ar
 simp only at a1 a2 a3 HA
 have hi0:i = 0:=by rcases hii with h | ⟨_,h,_⟩;exact h;omega
 have g0:(i == 0) = true:=by rw [hi0];rfl
 have g0n:(i != 0) = false:=by rw [hi0];rfl
 clear hii hi0
 generalize noText s = c at *
 generalize noText t = b at *
 obtain ⟨n2,n3,n13,n14,n22,n4,n5,n6,n7,n8,n15,n17⟩:=hk
 have g1:(k == 1) = false:=by simpa using hk1
 have g2:(k == 2) = false:=by simpa using n2
 have g3:(k == 3) = false:=by simpa using n3
 have g13:(k == 13) = false:=by simpa using n13
 have g14:(k == 14) = false:=by simpa using n14
 have g22:(k == 22) = false:=by simpa using n22
 have g4:(k == 4) = false:=by simpa using n4
 have g5:(k == 5) = false:=by simpa using n5
 have g6:(k == 6) = false:=by simpa using n6
 have g7:(k == 7) = false:=by simpa using n7
 have g8:(k == 8) = false:=by simpa using n8
 have g15:(k == 15) = false:=by simpa using n15
 have g17:(k == 17) = false:=by simpa using n17
 have g22n:(k != 22) = true:=by rw [bne,g22];rfl
 clear n2 n3 n13 n14 n22 n4 n5 n6 n7 n8 n15 n17 hk1
 cases c
 all_goals
  go_enter Tryz.func83,Tryz.ntmps83
  go_upto_region 1 with fail
  have hx1:(w.alloc (ndObj ⟨k,n,p,i,s,t⟩)).heap[w.heap.size]? = some (.cells #[.int .i64 k,.int .i64 n,.int .i64 p,.int .i64 i,.string s,.string t] 36 (0,0)):=heap_alloc_new _ _
  have hb1:Below w.heap.size w (w.alloc (ndObj ⟨k,n,p,i,s,t⟩)):=(Below.refl _ _).alloc (Nat.le_refl _) _
  simp only [ndObj] at hx1 hb1
  generalize w.alloc (.cells #[.int .i64 k,.int .i64 n,.int .i64 p,.int .i64 i,.string s,.string t] 36) = w1 at *
  have hz1:=lt_of_heap hx1
  obtain ⟨⟨d0,d1,d2,d3,d4,d5⟩,_⟩:=six_block hx1
  have HX1:=Hd hx1
  have HB1:=Hd hb1
  clear hx1 hb1
  go_wp2_with (first | (go_at_call 130;(with_reducible refine (HA.out _).mono ?_);rintro e w2 ⟨rfl,hw2⟩;subst w2))
  go_ret
  exact ⟨rfl,HB1.out⟩
end Go.Proofs.YtkokdafkjjcgoaaGreatDoor
