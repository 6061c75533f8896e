/- A node that is right by itself: declarations; all nodes: the -/
import Derived.Test.YtkokdafkjjcgoaaGreatDoorWell
namespace Go.Proofs.YtkokdafkjjcgoaaGreatDoor
open Go.RowKit
set_option maxHeartbeats 4000000 in
theorem well_22 (k n p i:Int) (s t:ByteArray) (w:World) (hE:TE w) (h:sizeOk ⟨k,n,p,i,s,t⟩ = true) (hk:k = 22) (hi2:intOk ⟨k,n,p,i,s,t⟩ = true):Calls Tryz.prog 83 #[.agg #[.int .i64 k,.int .i64 n,.int .i64 p,.int .i64 i,.string s,.string t]] w fun e w'=>e = .returned (.bool (isNameB s && (typedS t && objectS t))) ∧ Below w.heap.size w w':=by
 have HE:=Hd hE
 have HA:=Hd (fun w=>arity_ok k w)
 clear hE
 have hii:=int_yes hi2
 clear hi2
 have HNm:=Hd (fun w (hK:KeysAt w)=>lexIsName_any s w hK)
 have HTy:=Hd (fun w (hE:TE w)=>typed_ok t w hE)
 have HOb0:=Hd (fun (h:typedS t = true) w=>objectS_ok t w h)
 obtain ⟨a1,a2,a3,a4,a5⟩:=size_yes h
 clear h
 generalize arityN k = ar at *
 obtain ⟨lo,hi⟩:=ar
 simp only at a1 a2 a3 HA
 have g1:(k == 1) = false:=by rw [hk];rfl
 have g2:(k == 2) = false:=by rw [hk];rfl
 have g3:(k == 3) = false:=by rw [hk];rfl
 have g13:(k == 13) = false:=by rw [hk];rfl
 have g14:(k == 14) = false:=by rw [hk];rfl
 have g22:(k == 22) = true:=by rw [hk];rfl
 have g4:(k == 4) = false:=by rw [hk];rfl
 have g5:(k == 5) = false:=by rw [hk];rfl
 have g6:(k == 6) = false:=by rw [hk];rfl
 have g7:(k == 7) = false:=by rw [hk];rfl
 have g8:(k == 8) = false:=by rw [hk];rfl
 have g15:(k == 15) = false:=by rw [hk];rfl
 have g17:(k == 17) = false:=by rw [hk];rfl
 have g22n:(k != 22) = false:=by rw [hk];rfl
 clear hk
 generalize isNameB s = b at *
 cases b
 case' true=>
  rcases hty:typedS t with _ | _
  case' true=>have HOb:=Hd (HOb0.out hty)
  all_goals
   rw [hty] at HTy
   clear hty HOb0
 case' false=>clear HTy HOb0
 all_goals
  rcases hii with g44 | ⟨g44,g46,g45⟩
 case' false.inl=>have g0:(i == 0) = true:=by rw [g44];rfl
 case' true.false.inl=>have g0:(i == 0) = true:=by rw [g44];rfl
 case' true.true.inl=>have g0:(i == 0) = true:=by rw [g44];rfl
 case' false.inr=>have g0:(i == 0) = false:=by simpa using g44
 case' true.false.inr=>have g0:(i == 0) = false:=by simpa using g44
 case' true.true.inr=>have g0:(i == 0) = false:=by simpa using g44
 case' false.inr=>have g1':(i == 1) = true:=by rw [g45];rfl
 case' true.false.inr=>have g1':(i == 1) = true:=by rw [g45];rfl
 case' true.true.inr=>have g1':(i == 1) = true:=by rw [g45];rfl
 case' false.inl=>have g0n:(i != 0) = false:=by rw [g44];rfl
 case' true.false.inl=>have g0n:(i != 0) = false:=by rw [g44];rfl
 case' true.true.inl=>have g0n:(i != 0) = false:=by rw [g44];rfl
 case' false.inr=>have g1n:(i != 1) = false:=by rw [g45];rfl
 case' true.false.inr=>have g1n:(i != 1) = false:=by rw [g45];rfl
 case' true.true.inr=>have g1n:(i != 1) = false:=by rw [g45];rfl
 case' false.inr=>clear g45 g46
 case' true.false.inr=>clear g45 g46
 case' true.true.inr=>clear g45 g46
 all_goals
  clear g44
  go_enter Tryz.func83,Tryz.ntmps83
  go_upto_region 1 with fail
  have hx1:(w.alloc (ndObj ⟨k,n,p,i,s,t⟩)).heap[w.heap.size]? = some (.cells #[.int .i64 k,.int .i64 n,.int .i64 p,.int .i64 i,.string s,.string t] 36 (0,0)):=heap_alloc_new _ _
  have hb1:Below w.heap.size w (w.alloc (ndObj ⟨k,n,p,i,s,t⟩)):=(Below.refl _ _).alloc (Nat.le_refl _) _
  simp only [ndObj] at hx1 hb1
  generalize w.alloc (.cells #[.int .i64 k,.int .i64 n,.int .i64 p,.int .i64 i,.string s,.string t] 36) = w1 at *
  have hz1:=lt_of_heap hx1
  obtain ⟨⟨d0,d1,d2,d3,d4,d5⟩,_⟩:=six_block hx1
  have HX1:=Hd hx1
  have HB1:=Hd hb1
  clear hx1 hb1
  have HN1:=Hd (HNm.out w1 ((HE.out.below HB1.out).keys))
  go_wp2_with (first | (go_at_call 130;(with_reducible refine (HA.out _).mono ?_);rintro e w2 ⟨rfl,hw2⟩;subst w2) | (go_at_call 124;(with_reducible refine HN1.out.mono ?_);rintro e w2 ⟨rfl,hb2⟩;have hx2:=(hb2.block _ hz1).trans HX1.out;obtain ⟨⟨e0,e1,e2,e3,e4,e5⟩,_⟩:=six_block hx2;have HX2:=Hd hx2;have HB2:=Ht HB1 hb2;clear hx2;clear hb2) | (go_at_call 132;(with_reducible refine (HTy.out w2 (HE.out.below HB2.out)).mono ?_);rintro e w3 ⟨rfl,hb3⟩;have hx3:=(hb3.block _ (lt_of_heap HX2.out)).trans HX2.out;obtain ⟨⟨y0,y1,y2,y3,y4,y5⟩,_⟩:=six_block hx3;have HB3:=Ht HB2 hb3;clear hx3 hb3) | (go_at_call 126;(with_reducible refine (HOb.out _).mono ?_);rintro e w4 ⟨rfl,hw4⟩;subst w4))
  all_goals go_ret
  all_goals (first | exact ⟨by simp,HB3.out⟩ | exact ⟨by simp_all,HB3.out⟩ | exact ⟨rfl,HB2.out⟩)
theorem well_ok (x:Nd) (w:World) (hE:TE w):Calls Tryz.prog 83 #[ndV x] w fun e w'=>e = .returned (.bool (wellN x)) ∧ Below w.heap.size w w':=by
 obtain ⟨k,n,p,i,s,t⟩:=x
 rw [well_split]
 rcases hs:sizeOk ⟨k,n,p,i,s,t⟩ with _ | _
 ·exact well_size k n p i s t w hE hs
 ·rw [Bool.true_and]
  simp only
  by_cases h1:k = 1
  ·rw [if_pos h1]
   exact well_num k n p i s t w hE hs h1
  ·rw [if_neg h1]
   rcases hi:intOk ⟨k,n,p,i,s,t⟩ with _ | _
   ·exact well_int k n p i s t w hE hs h1 hi
   ·rw [Bool.true_and]
    rcases body_kinds k with h | h | h | h | h | h
    ·subst h;rw [body_2];exact well_2 2 n p i s t w hE hs rfl hi
    ·rw [body_3 h];exact well_3 k n p i s t w hE hs h hi
    ·subst h;rw [body_22];exact well_22 22 n p i s t w hE hs rfl hi
    ·rw [body_4 h];exact well_4 k n p i s t w hE hs h hi
    ·rw [body_15 h];exact well_15 k n p i s t w hE hs h hi
    ·rw [body_x h];exact well_x k n p i s t w hE hs h1 h hi
end Go.Proofs.YtkokdafkjjcgoaaGreatDoor
