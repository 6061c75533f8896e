/- Kinds of nodes; what may be whose part: the program; kinds: -/
import Derived.Test.YtkokdafkjjcgoaaGreatDoorMg18
namespace Go.Proofs.YtkokdafkjjcgoaaGreatDoor
open Go.RowKit
theorem expr_ok (k:Int) (w:World):Calls Tryz.prog 51 #[.int .i64 k] w fun e w'=>e = .returned (.bool (exprK k)) ∧ w' = w:=by
 refine Or.elim (Classical.em (1 ≤ k)) (fun h1=>?a1) (fun h1=>?b1)
 ·have t1:decide (1 ≤ k) = true:=by simpa using h1
  refine Or.elim (Classical.em (k ≤ 17)) (fun h2=>?a2) (fun h2=>?b2)
  ·have t2:decide (k ≤ 17) = true:=by simpa using h2
   have hr:exprK k = true:=by unfold exprK;simp;omega
   rw [hr]
   go_enter Tryz.func51,Tryz.ntmps51
   go_wp2_with fail
   go_ret
   exact ⟨rfl,rfl⟩
  ·have t2:decide (k ≤ 17) = false:=by simpa using h2
   have hr:exprK k = false:=by unfold exprK;simp;omega
   rw [hr]
   go_enter Tryz.func51,Tryz.ntmps51
   go_wp2_with fail
   go_ret
   exact ⟨rfl,rfl⟩
 ·have t1:decide (1 ≤ k) = false:=by simpa using h1
  have hr:exprK k = false:=by unfold exprK;simp;omega
  rw [hr]
  go_enter Tryz.func51,Tryz.ntmps51
  go_wp2_with fail
  go_ret
  exact ⟨rfl,rfl⟩
theorem stmt_ok (k:Int) (w:World):Calls Tryz.prog 175 #[.int .i64 k] w fun e w'=>e = .returned (.bool (stmtK k)) ∧ w' = w:=by
 refine Or.elim (Classical.em (20 ≤ k)) (fun h1=>?a5) (fun h1=>?b5)
 ·have t1:decide (20 ≤ k) = true:=by simpa using h1
  refine Or.elim (Classical.em (k ≤ 32)) (fun h2=>?a6) (fun h2=>?b6)
  ·have t2:decide (k ≤ 32) = true:=by simpa using h2
   refine Or.elim (Classical.em (k = 22)) (fun h3=>?a7) (fun h3=>?b7)
   ·have t3:(k != 22) = false:=by simpa using h3
    have hr:stmtK k = false:=by unfold stmtK;simp;omega
    rw [hr]
    go_enter Tryz.func175,Tryz.ntmps175
    go_wp2_with fail
    go_ret
    exact ⟨rfl,rfl⟩
   ·have t3:(k != 22) = true:=by simpa using h3
    have hr:stmtK k = true:=by unfold stmtK;simp;omega
    rw [hr]
    go_enter Tryz.func175,Tryz.ntmps175
    go_wp2_with fail
    go_ret
    exact ⟨rfl,rfl⟩
  ·have t2:decide (k ≤ 32) = false:=by simpa using h2
   have hr:stmtK k = false:=by unfold stmtK;simp;omega
   rw [hr]
   go_enter Tryz.func175,Tryz.ntmps175
   go_wp2_with fail
   go_ret
   exact ⟨rfl,rfl⟩
 ·have t1:decide (20 ≤ k) = false:=by simpa using h1
  have hr:stmtK k = false:=by unfold stmtK;simp;omega
  rw [hr]
  go_enter Tryz.func175,Tryz.ntmps175
  go_wp2_with fail
  go_ret
  exact ⟨rfl,rfl⟩
set_option maxHeartbeats 8000000 in
theorem may_ok (k q:Int) (i:Nat) (w:World) (h:k = 25 → i < 2):Calls Tryz.prog 134 #[.int .i64 k,.int .i64 (i:Int),.int .i64 q] w fun e w'=>e = .returned (.bool (mayN k i q)) ∧ w' = w:=by
 have HEk:=Hd (fun w=>expr_ok k w)
 have HEq:=Hd (fun w=>expr_ok q w)
 have HSq:=Hd (fun w=>stmt_ok q w)
 unfold mayN
 rcases hx:exprK k with _ | _ <;> rw [hx] at HEk
 case' true=>
  rw [if_pos (Or.inl rfl)]
  clear hx h
  generalize exprK q = E at *
 case' false=>
  refine Or.elim (Classical.em (k = 20 ∨ k = 32 ∨ k = 22)) (fun h20=>?a11) (fun h20=>?b11)
  case' a11=>
   rw [if_pos (Or.inr h20)]
   rcases h20 with rfl | rfl | rfl
   all_goals
    clear hx h
    generalize exprK q = E at *
  case' b11=>
   rw [if_neg (by simp;omega)]
   refine Or.elim (Classical.em (k = 26)) (fun h26=>?a12) (fun h26=>?b12)
   case' a12=>
    rw [if_pos h26]
    subst h26
    clear hx h20 h
    refine Or.elim (Classical.em (i = 0)) (fun i0=>?a13) (fun i0=>?b13)
    case' a13=>
     rw [if_pos i0]
     subst i0
     generalize exprK q = E at *
     refine Or.elim (Classical.em (q = 20)) (fun q20=>?a14) (fun q20=>?b14)
     case' a14=>subst q20
     case' b14=>
      refine Or.elim (Classical.em (q = 22)) (fun q22=>?a15) (fun q22=>?b15)
      case' a15=>subst q22
      case' b15=>
       refine Or.elim (Classical.em (q = 33)) (fun q33=>?a16) (fun q33=>?b16)
       case' a16=>subst q33
       case' b16=>
        rw [decide_eq_false (by omega)]
        have f1:(q == 20) = false:=by simpa using q20
        have f2:(q == 22) = false:=by simpa using q22
        have f3:(q == 33) = false:=by simpa using q33
        clear q20 q22 q33
    case' b13=>
     rw [if_neg i0]
     have e0:((i:Int) == 0) = false:=by simp;omega
     refine Or.elim (Classical.em (i = 3)) (fun i3=>?a17) (fun i3=>?b17)
     case' a17=>
      rw [if_pos i3]
      clear i0 e0
      subst i3
      generalize stmtK q = S at *
     case' b17=>
      rw [if_neg i3]
      have e3:((i:Int) == 3) = false:=by simp;omega
      clear i0 i3
      refine Or.elim (Classical.em (q = 33)) (fun qc=>?a18) (fun qc=>?b18)
      case' a18=>subst qc
      case' b18=>
       rw [decide_eq_false qc]
       have f1:(q == 33) = false:=by simpa using qc
       clear qc
      all_goals
       generalize exprK _ = E at *
       rcases E with _ | _
   case' b12=>
    rw [if_neg h26]
    refine Or.elim (Classical.em (k = 21)) (fun h21=>?a19) (fun h21=>?b19)
    case' a19=>
     rw [if_pos h21]
     subst h21
     clear hx h20 h26 h
     refine Or.elim (Classical.em (q = 22)) (fun qc=>?a20) (fun qc=>?b20)
     case' a20=>subst qc
     case' b20=>
      rw [decide_eq_false qc]
      have f1:(q == 22) = false:=by simpa using qc
      clear qc
     all_goals
      generalize stmtK _ = S at *
      rcases S with _ | _
    case' b19=>
     rw [if_neg h21]
     refine Or.elim (Classical.em (k = 25)) (fun h25=>?a21) (fun h25=>?b21)
     case' a21=>
      rw [if_pos h25]
      have hi:=h h25
      subst h25
      clear hx h20 h26 h21 h
      refine Or.elim (Classical.em (i = 0)) (fun i0=>?a22) (fun i0=>?b22)
      case' a22=>
       rw [if_pos i0]
       subst i0
       clear hi
      case' b22=>
       rw [if_neg i0]
       obtain rfl:i = 1:=by omega
       clear hi i0
      all_goals
       generalize stmtK q = S at *
       generalize exprK q = E at *
       rcases S with _ | _
     case' b21=>
      rw [if_neg h25]
      refine Or.elim (Classical.em (k = 23 ∨ k = 24 ∨ k = 27 ∨ k = 28)) (fun h23=>?a23) (fun h23=>?b23)
      case' a23=>
       rw [if_pos h23]
       clear hx h20 h26 h21 h25 h
       refine Or.elim (Classical.em (i = 0)) (fun i0=>?a24) (fun i0=>?b24)
       case' a24=>
        rw [if_pos i0]
        subst i0
       case' b24=>
        rw [if_neg i0]
        have e0:((i:Int) == 0) = false:=by simp;omega
        have e1:decide (0 < (i:Int)) = true:=by simp;omega
        have e2:decide (0 < i) = true:=by simp;omega
        clear i0
       all_goals
        generalize stmtK q = S at *
        generalize exprK q = E at *
        rcases E with _ | _
        all_goals rcases h23 with rfl | rfl | rfl | rfl
      case' b23=>
       rw [if_neg h23]
       have g20:(k == 20) = false:=by simp;omega
       have g21:(k == 21) = false:=by simp;omega
       have g22:(k == 22) = false:=by simp;omega
       have g23:(k == 23) = false:=by simp;omega
       have g24:(k == 24) = false:=by simp;omega
       have g25:(k == 25) = false:=by simp;omega
       have g26:(k == 26) = false:=by simp;omega
       have g27:(k == 27) = false:=by simp;omega
       have g28:(k == 28) = false:=by simp;omega
       have g32:(k == 32) = false:=by simp;omega
       clear hx h20 h26 h21 h25 h23 h
       generalize stmtK q = S at *
 all_goals
  go_enter Tryz.func134,Tryz.ntmps134
  go_wp2_with (first | (go_at_call 51;(with_reducible refine (HEk.out _).mono ?_);rintro e w2 ⟨rfl,hw2⟩;subst w2) | (go_at_call 51;(with_reducible refine (HEq.out _).mono ?_);rintro e w2 ⟨rfl,hw2⟩;subst w2) | (go_at_call 175;(with_reducible refine (HSq.out _).mono ?_);rintro e w2 ⟨rfl,hw2⟩;subst w2))
  go_ret
  exact ⟨rfl,rfl⟩
def OpenEnd (r:Bool) (w:World) (e:Ending) (w':World):Prop:=e = .returned (.bool r) ∧ Below w.heap.size w w'
structure WholeAt (w:World) (a b:Option Addr) (t:List Nd) (fr:List Nat):Prop where
 nds:IsNds w.heap.size w a t
 nats:IsNats w.heap.size w b fr
theorem WholeAt.below {w w':World} {a b:Option Addr} {t:List Nd} {fr:List Nat} (h:WholeAt w a b t fr) (hb:Below w.heap.size w w'):WholeAt w' a b t fr:=⟨(h.nds.below hb (Nat.le_refl _)).mono hb.size,(h.nats.below hb (Nat.le_refl _)).mono hb.size⟩
structure Given (t:List Nd) (fr:List Nat):Prop where
 le:t.length ≤ 4096
 formed:Formed t fr
 well:∀ (k:Nat) x,t[k]? = some x → wellN x = true
theorem kind_at {w:World} {a b:Option Addr} {t:List Nd} {fr:List Nat} (h:WholeAt w a b t fr) {k:Nat} (hk:k < t.length):∃ ba off,a = some ⟨ba,off,none⟩ ∧ ba < w.heap.size ∧ w.cell? ⟨ba,off + k * 6,none⟩ = some (.int .i64 (kindAt t k)):=by
 obtain ⟨ba,off,ha,hbl,x0,_⟩:=nds_at h.nds hk
 refine ⟨ba,off,ha,hbl,?_⟩
 rw [kindAt_is (List.getElem?_eq_getElem hk)]
 exact x0
theorem getD_mem {L:List Nat} {i:Nat} (h:i < L.length):L.getD i 0 = L[i] ∧ L[i] ∈ L:=by
 rw [List.getD_eq_getElem?_getD,List.getElem?_eq_getElem h]
 exact ⟨rfl,List.getElem_mem h⟩
set_option maxRecDepth 100000 in
set_option maxHeartbeats 8000000 in
theorem open_ok (a:Option Addr) (cap:Nat) (t:List Nd) (b:Option Addr) (capb:Nat) (fr:List Nat) (hG:Given t fr):∀ (m k:Nat),k < m → k < t.length → ∀ w,WholeAt w a b t fr →
 Calls Tryz.prog 135 #[.agg #[.slice a t.length cap,.slice b fr.length capb],.int .i64 (k:Int)] w (OpenEnd (openN t fr k) w)
 | 0,k,hm,_,_,_=>by omega
 | m + 1,k,hm,hk,w,hW=>by
   have HRec:=Hd (open_ok a cap t b capb fr hG m)
   have HPt:=Hd (fun w (hW:WholeAt w a b t fr)=>tparts_ok a cap t b capb fr w hW.nds hW.nats hG.le hG.formed k hk)
   have HW:=Hd hW
   obtain ⟨ba,off,ha,hbl,x0⟩:=kind_at hW hk
   subst ha
   have HLt:=Hd (fun p (h:p ∈ partsAt t fr k)=>hG.formed.parts_lt h)
   have HFL:=Hd hG.formed.len
   have hl:=hG.le
   have hpl:(partsAt t fr k).length ≤ 4096:=by rw [partsAt_is (List.getElem?_eq_getElem hk),partsE_length];have:=(hG.formed.node k _ (List.getElem?_eq_getElem hk)).2.1.le;omega
   clear hW
   by_cases h23:kindAt t k = 23
   ·have hop:=open_if hG.formed hG.well hk h23
    obtain ⟨hlo,hhi,_⟩:=well_parts (hG.well k _ (List.getElem?_eq_getElem hk))
    rw [← kindAt_is (List.getElem?_eq_getElem hk),h23,show arityN 23 = (2,3) by decide] at hlo hhi
    have hlen:(partsAt t fr k).length = t[k].n.toNat:=by rw [partsAt_is (List.getElem?_eq_getElem hk),partsE_length]
    simp only at hlo hhi
    have hlen2:2 ≤ (partsAt t fr k).length ∧ (partsAt t fr k).length ≤ 3:=by omega
    clear hlo hhi hlen
    rw [hop]
    clear hop
    generalize hkd:kindAt t k = kd at *
    have hk:=hk
    clear hkd
    subst h23
    generalize partsAt t fr k = P at *
    by_cases h2:P.length = 2
    ·have t2:((P.length:Int) == 2) = true:=by rw [h2];rfl
     have hv:(decide (P.length = 2) || (decide (2 < P.length) && openN t fr (P.getD 2 0))) = true:=by simp [h2]
     rw [hv]
     clear hv h2
     go_enter Tryz.func135,Tryz.ntmps135
     go_upto_region 1 with fail
     have hxw:(w.alloc (.cells #[.slice (some ⟨ba,off,none⟩) t.length cap,.slice b fr.length capb] 81)).heap[w.heap.size]? = some (.cells #[.slice (some ⟨ba,off,none⟩) t.length cap,.slice b fr.length capb] 81 (0,0)):=heap_alloc_new _ _
     have hbw:Below w.heap.size w (w.alloc (.cells #[.slice (some ⟨ba,off,none⟩) t.length cap,.slice b fr.length capb] 81)):=ba1 _ _
     generalize w.alloc (.cells #[.slice (some ⟨ba,off,none⟩) t.length cap,.slice b fr.length capb] 81) = w0 at *
     have hzw:=lt_of_heap hxw
     obtain ⟨⟨z0,z1⟩,_⟩:=two_block hxw
     have HBW:=Hd hbw
     have HW0:=Hd (HW.out.below hbw)
     have v0:=x0
     rw [← hbw.cell hbl] at v0
     have hbl0:=Nat.lt_of_lt_of_le hbl hbw.size
     clear hxw hbw
     go_upto_region 2 with (go_at_call 42;go_loud (with_reducible refine (HPt.out _ HW0.out).mono ?_);rintro e w1 ⟨⟨v,rfl,hrow⟩,hb1⟩;obtain ⟨pa,pc,rfl,_⟩:=hrow.is;have HB1:=Ht HBW hb1;have y0:=v0;rw [← hb1.cell hbl0] at y0;have y1:=z0;have y2:=z1;rw [← hb1.cell hzw] at y1 y2;have hz1:=Nat.lt_of_lt_of_le hzw hb1.size;clear hrow hb1)
     go_upto_region 4 with fail
     have HCl:=Hd (show ∀ w',Below w1.heap.size w1 w' → w'.cell? ⟨w.heap.size,0,none⟩ = some (.slice (some ⟨ba,off,none⟩) t.length cap) ∧ w'.cell? ⟨w.heap.size,1,none⟩ = some (.slice b fr.length capb) from fun w' hb=>⟨by rw [hb.cell hz1];exact y1,by rw [hb.cell hz1];exact y2⟩)
     go_quiet (fail)
     go_wp2_with fail
     go_ret
     exact ⟨rfl,blw_drewN HB1.out _⟩
    ·have h3:2 < P.length:=by omega
     have t2:((P.length:Int) == 2) = false:=by simp;omega
     have hv:(decide (P.length = 2) || (decide (2 < P.length) && openN t fr (P.getD 2 0))) = openN t fr (P.getD 2 0):=by simp [h2,h3]
     rw [hv,(getD_mem h3).1]
     have hlt:=HLt.out _ (getD_mem h3).2
     obtain ⟨q,hq⟩:∃ q,q = P[2]:=⟨_,rfl⟩
     rw [← hq] at hlt ⊢
     have HQ:=Hd hq
     clear hq
     clear hv
     go_enter Tryz.func135,Tryz.ntmps135
     go_upto_region 1 with fail
     have hxw:(w.alloc (.cells #[.slice (some ⟨ba,off,none⟩) t.length cap,.slice b fr.length capb] 81)).heap[w.heap.size]? = some (.cells #[.slice (some ⟨ba,off,none⟩) t.length cap,.slice b fr.length capb] 81 (0,0)):=heap_alloc_new _ _
     have hbw:Below w.heap.size w (w.alloc (.cells #[.slice (some ⟨ba,off,none⟩) t.length cap,.slice b fr.length capb] 81)):=ba1 _ _
     generalize w.alloc (.cells #[.slice (some ⟨ba,off,none⟩) t.length cap,.slice b fr.length capb] 81) = w0 at *
     have hzw:=lt_of_heap hxw
     obtain ⟨⟨z0,z1⟩,_⟩:=two_block hxw
     have HBW:=Hd hbw
     have HW0:=Hd (HW.out.below hbw)
     have v0:=x0
     rw [← hbw.cell hbl] at v0
     have hbl0:=Nat.lt_of_lt_of_le hbl hbw.size
     clear hxw hbw
     go_upto_region 2 with (go_at_call 42;go_loud (with_reducible refine (HPt.out _ HW0.out).mono ?_);rintro e w1 ⟨⟨v,rfl,hrow⟩,hb1⟩;obtain ⟨pa,pc,rfl,hP,_⟩:=hrow.is;obtain ⟨pb,po,hpa,hpb,c2⟩:=nats_at hP h3;rw [← HQ.out] at c2;have HB1:=Ht HBW hb1;have y0:=v0;rw [← hb1.cell hbl0] at y0;have y1:=z0;have y2:=z1;rw [← hb1.cell hzw] at y1 y2;have hz1:=Nat.lt_of_lt_of_le hzw hb1.size;clear hrow hb1 hP)
     subst hpa
     have HIH:=Hd (fun w' (hb:Below w1.heap.size w1 w')=>HRec.out q (by omega) (by omega) w' (HW.out.below (HB1.out.trans (hb.mono HB1.out.size))))
     have h3i:(2:Int) < (P.length:Int):=by omega
     go_upto_region 4 with fail
     have HCl:=Hd (show ∀ w',Below w1.heap.size w1 w' → w'.cell? ⟨w.heap.size,0,none⟩ = some (.slice (some ⟨ba,off,none⟩) t.length cap) ∧ w'.cell? ⟨w.heap.size,1,none⟩ = some (.slice b fr.length capb) ∧ w'.cell? ⟨pb,po + 2,none⟩ = some (.int .i64 (q:Int)) from fun w' hb=>⟨by rw [hb.cell hz1];exact y1,by rw [hb.cell hz1];exact y2,by rw [hb.cell hpb];exact c2⟩)
     go_region_held3 (fun w'=>w'.cell? ⟨w.heap.size,0,none⟩ = some (.slice (some ⟨ba,off,none⟩) t.length cap) ∧ w'.cell? ⟨w.heap.size,1,none⟩ = some (.slice b fr.length capb) ∧ w'.cell? ⟨pb,po + 2,none⟩ = some (.int .i64 (q:Int))) (first | (refine ⟨?_,?_,?_⟩ <;> assumption) | exact HCl.out _ ((Below.refl _ _).drew) | exact HCl.out _ HB9.out) ((go_at_call 135;(with_reducible refine (HIH.out _ (Below.refl _ _).drew).mono ?_);rintro e w2 ⟨rfl,hb2⟩;have HB9:=Hd (((Below.refl w1.heap.size w1).drew).trans (hb2.mono (Nat.le_refl _)));have HB2:=Hd (HB1.out.trans (HB9.out.mono HB1.out.size));obtain ⟨u1,u2,u3⟩:=HCl.out _ HB9.out;clear hb2))
     go_wp2_with fail
     go_ret
     exact ⟨rfl,HB2.out⟩
   ·by_cases h5:kindAt t k = 24 ∨ kindAt t k = 26 ∨ kindAt t k = 27 ∨ kindAt t k = 28 ∨ kindAt t k = 29
    ·obtain ⟨h0,hop⟩:=open_last hG.formed hG.well hk h5
     rw [hop]
     clear hop
     generalize hkd:kindAt t k = kd at *
     clear hkd h23
     generalize partsAt t fr k = P at *
     obtain ⟨j,hj⟩:∃ j,j = P.length - 1:=⟨_,rfl⟩
     rw [← hj]
     have hjl:j < P.length:=by omega
     have hgm:=getD_mem hjl
     have hlt:=HLt.out _ hgm.2
     rw [← hgm.1] at hlt
     obtain ⟨q,hq⟩:∃ q,q = P.getD j 0:=⟨_,rfl⟩
     rw [← hq] at hlt ⊢
     have HQ:=Hd (hq.trans hgm.1)
     have hj4:(j:Int) ≤ 4096:=by omega
     have hj5:(j:Int) < (P.length:Int):=by omega
     have hj6:(P.length:Int) - 1 = (j:Int):=by omega
     have hj7:(0:Int) ≤ (j:Int):=by omega
     have hj8:Go.RowKit.wrap64 (j:Int) = (j:Int):=by unfold Go.RowKit.wrap64;omega
     have hj9:Go.RowKit.wrap64 ((P.length:Int) - 1) = (j:Int):=by rw [hj6];exact hj8
     have hj10:IntKind.i64.wrap ((P.length:Int) - 1) = (j:Int):=by rw [IntWalk.i64_left];exact hj9
     have hj11:IntKind.i64.wrap (j:Int) = (j:Int):=by rw [IntWalk.i64_left];exact hj8
     have hj12:(j:Int) ≤ (P.length:Int):=by omega
     clear hj hgm hq
     rcases h5 with rfl | rfl | rfl | rfl | rfl
     all_goals
      go_enter Tryz.func135,Tryz.ntmps135
      go_upto_region 1 with fail
      have hxw:(w.alloc (.cells #[.slice (some ⟨ba,off,none⟩) t.length cap,.slice b fr.length capb] 81)).heap[w.heap.size]? = some (.cells #[.slice (some ⟨ba,off,none⟩) t.length cap,.slice b fr.length capb] 81 (0,0)):=heap_alloc_new _ _
      have hbw:Below w.heap.size w (w.alloc (.cells #[.slice (some ⟨ba,off,none⟩) t.length cap,.slice b fr.length capb] 81)):=ba1 _ _
      generalize w.alloc (.cells #[.slice (some ⟨ba,off,none⟩) t.length cap,.slice b fr.length capb] 81) = w0 at *
      have hzw:=lt_of_heap hxw
      obtain ⟨⟨z0,z1⟩,_⟩:=two_block hxw
      have HBW:=Hd hbw
      have HW0:=Hd (HW.out.below hbw)
      have v0:=x0
      rw [← hbw.cell hbl] at v0
      have hbl0:=Nat.lt_of_lt_of_le hbl hbw.size
      clear hxw hbw
      go_upto_region 2 with (go_at_call 42;go_loud (with_reducible refine (HPt.out _ HW0.out).mono ?_);rintro e w1 ⟨⟨v,rfl,hrow⟩,hb1⟩;obtain ⟨pa,pc,rfl,hP,_⟩:=hrow.is;obtain ⟨pb,po,hpa,hpb,c2⟩:=nats_at hP hjl;rw [← HQ.out] at c2;have HB1:=Ht HBW hb1;have y0:=v0;rw [← hb1.cell hbl0] at y0;have y1:=z0;have y2:=z1;rw [← hb1.cell hzw] at y1 y2;have hz1:=Nat.lt_of_lt_of_le hzw hb1.size;clear hrow hb1 hP)
      subst hpa
      have HIH:=Hd (fun w' (hb:Below w1.heap.size w1 w')=>HRec.out q (by omega) (by omega) w' (HW.out.below (HB1.out.trans (hb.mono HB1.out.size))))
      go_upto_region 10 with fail
      have HCl:=Hd (show ∀ w',Below w1.heap.size w1 w' → w'.cell? ⟨w.heap.size,0,none⟩ = some (.slice (some ⟨ba,off,none⟩) t.length cap) ∧ w'.cell? ⟨w.heap.size,1,none⟩ = some (.slice b fr.length capb) ∧ w'.cell? ⟨pb,po + j,none⟩ = some (.int .i64 (q:Int)) from fun w' hb=>⟨by rw [hb.cell hz1];exact y1,by rw [hb.cell hz1];exact y2,by rw [hb.cell hpb];exact c2⟩)
      go_region_held3 (fun w'=>w'.cell? ⟨w.heap.size,0,none⟩ = some (.slice (some ⟨ba,off,none⟩) t.length cap) ∧ w'.cell? ⟨w.heap.size,1,none⟩ = some (.slice b fr.length capb) ∧ w'.cell? ⟨pb,po + j,none⟩ = some (.int .i64 (q:Int))) (first | (refine ⟨?_,?_,?_⟩ <;> assumption) | exact HCl.out _ ((Below.refl _ _).drew) | exact HCl.out _ HB9.out) ((go_at_call 135;(with_reducible refine (HIH.out _ (Below.refl _ _).drew).mono ?_);rintro e w2 ⟨rfl,hb2⟩;have HB9:=Hd (((Below.refl w1.heap.size w1).drew).trans (hb2.mono (Nat.le_refl _)));have HB2:=Hd (HB1.out.trans (HB9.out.mono HB1.out.size));obtain ⟨u1,u2,u3⟩:=HCl.out _ HB9.out;clear hb2))
      go_wp2_with fail
      go_ret
      exact ⟨rfl,HB2.out⟩
    ·rw [open_no (by omega)]
     generalize kindAt t k = kd at *
     have g23:(kd == 23) = false:=by simp;omega
     have g24:(kd == 24) = false:=by simp;omega
     have g26:(kd == 26) = false:=by simp;omega
     have g27:(kd == 27) = false:=by simp;omega
     have g28:(kd == 28) = false:=by simp;omega
     have g29:(kd == 29) = false:=by simp;omega
     clear h23 h5
     go_enter Tryz.func135,Tryz.ntmps135
     go_upto_region 1 with fail
     have hxw:(w.alloc (.cells #[.slice (some ⟨ba,off,none⟩) t.length cap,.slice b fr.length capb] 81)).heap[w.heap.size]? = some (.cells #[.slice (some ⟨ba,off,none⟩) t.length cap,.slice b fr.length capb] 81 (0,0)):=heap_alloc_new _ _
     have hbw:Below w.heap.size w (w.alloc (.cells #[.slice (some ⟨ba,off,none⟩) t.length cap,.slice b fr.length capb] 81)):=ba1 _ _
     generalize w.alloc (.cells #[.slice (some ⟨ba,off,none⟩) t.length cap,.slice b fr.length capb] 81) = w0 at *
     have hzw:=lt_of_heap hxw
     obtain ⟨⟨z0,z1⟩,_⟩:=two_block hxw
     have HBW:=Hd hbw
     have HW0:=Hd (HW.out.below hbw)
     have v0:=x0
     rw [← hbw.cell hbl] at v0
     have hbl0:=Nat.lt_of_lt_of_le hbl hbw.size
     clear hxw hbw
     go_upto_region 2 with (go_at_call 42;go_loud (with_reducible refine (HPt.out _ HW0.out).mono ?_);rintro e w1 ⟨⟨v,rfl,hrow⟩,hb1⟩;obtain ⟨pa,pc,rfl,_⟩:=hrow.is;have HB1:=Ht HBW hb1;have y0:=v0;rw [← hb1.cell hbl0] at y0;have y1:=z0;have y2:=z1;rw [← hb1.cell hzw] at y1 y2;have hz1:=Nat.lt_of_lt_of_le hzw hb1.size;clear hrow hb1)
     go_wp2_with fail
     go_ret
     exact ⟨rfl,HB1.out⟩
end Go.Proofs.YtkokdafkjjcgoaaGreatDoor
namespace Go.Proofs.YtkokdafkjjcgoaaGreatDoor
theorem mayAll_yes {t:List Nd} {k:Int}:∀ {l:List Nat} {i:Nat},(∀ (j p:Nat),l[j]? = some p → mayN k (i + j) (kindAt t p) = true) → mayAll t k i l = true
 | [],_,_=>rfl
 | p :: l,i,h=>by
   rw [mayAll,Bool.and_eq_true]
   exact ⟨h 0 p rfl,mayAll_yes fun j q hq=>by rw [show i + 1 + j = i + (j + 1) by omega];exact h (j + 1) q (by simpa using hq)⟩
theorem mayAll_no {t:List Nd} {k:Int}:∀ {l:List Nat} {i j p:Nat},l[j]? = some p → mayN k (i + j) (kindAt t p) = false → mayAll t k i l = false
 | [],_,_,_,h,_=>by simp at h
 | q :: l,i,0,p,h,hm=>by
   obtain rfl:=Option.some.inj h
   rw [mayAll,show mayN k i (kindAt t q) = false from hm]
   rfl
 | q :: l,i,j + 1,p,h,hm=>by
   rw [mayAll,mayAll_no (i:=i + 1) (j:=j) (by simpa using h) (by rw [show i + 1 + j = i + (j + 1) by omega];exact hm),Bool.and_false]
end Go.Proofs.YtkokdafkjjcgoaaGreatDoor
namespace Go.Proofs.YtkokdafkjjcgoaaGreatDoor
open Go.RowKit
theorem parts_num {t:List Nd} {fr:List Nat} (hG:Given t fr) {k n:Nat} (hk:k < t.length) {c:Int} (h:kindAt t k = c) (ha:arityN c = ((n:Int),(n:Int))):(partsAt t fr k).length = n:=by
 obtain ⟨hlo,hhi,_⟩:=well_parts (hG.well k _ (List.getElem?_eq_getElem hk))
 rw [← kindAt_is (List.getElem?_eq_getElem hk),h,ha] at hlo hhi
 rw [partsAt_is (List.getElem?_eq_getElem hk),partsE_length]
 simp only at hlo hhi
 omega
theorem parts_two {t:List Nd} {fr:List Nat} (hG:Given t fr) {k:Nat} (hk:k < t.length) (h:kindAt t k = 23):2 ≤ (partsAt t fr k).length ∧ (partsAt t fr k).length ≤ 3:=by
 obtain ⟨hlo,hhi,_⟩:=well_parts (hG.well k _ (List.getElem?_eq_getElem hk))
 rw [← kindAt_is (List.getElem?_eq_getElem hk),h,show arityN 23 = (2,3) by decide] at hlo hhi
 rw [partsAt_is (List.getElem?_eq_getElem hk),partsE_length]
 simp only at hlo hhi
 omega
set_option maxRecDepth 100000 in
set_option maxHeartbeats 8000000 in
theorem fits_ok (a:Option Addr) (cap:Nat) (t:List Nd) (b:Option Addr) (capb:Nat) (fr:List Nat) (hG:Given t fr) (k:Nat) (hk:k < t.length) (w:World) (hW:WholeAt w a b t fr) :
 Calls Tryz.prog 84 #[.agg #[.slice a t.length cap,.slice b fr.length capb],.int .i64 (k:Int)] w (OpenEnd (fitsN t fr k) w):=by
 have HPt:=Hd (fun w (hW:WholeAt w a b t fr)=>tparts_ok a cap t b capb fr w hW.nds hW.nats hG.le hG.formed k hk)
 have HW:=Hd hW
 have HOp:=Hd (fun p (hp:p < t.length) w hW=>open_ok a cap t b capb fr hG (p + 1) p (Nat.lt_succ_self p) hp w hW)
 obtain ⟨ba,off,ha,hbl,x0⟩:=kind_at hW hk
 subst ha
 have HLt:=Hd (fun p (h:p ∈ partsAt t fr k)=>hG.formed.parts_lt h)
 have hl:=hG.le
 have hpl:(partsAt t fr k).length ≤ 4096:=by rw [partsAt_is (List.getElem?_eq_getElem hk),partsE_length];have:=(hG.formed.node k _ (List.getElem?_eq_getElem hk)).2.1.le;omega
 have H25:=Hd (show kindAt t k = 25 → (partsAt t fr k).length = 2 from fun h=>parts_num hG hk h (by decide))
 have H23:=Hd (show kindAt t k = 23 → 2 ≤ (partsAt t fr k).length ∧ (partsAt t fr k).length ≤ 3 from fun h=>parts_two hG hk h)
 have hfit:=Hd (show fitsN t fr k = (mayAll t (kindAt t k) 0 (partsAt t fr k) && (decide (kindAt t k ≠ 23) || (decide ((partsAt t fr k).length < 3) || !openN t fr ((partsAt t fr k).getD 1 0)))) from rfl)
 generalize fitsN t fr k = fit at *
 generalize hkd:kindAt t k = kd at *
 have HKd:=Hd hkd
 clear hW hkd
 generalize partsAt t fr k = P at *
 go_enter Tryz.func84,Tryz.ntmps84
 go_upto_region 1 with fail
 have hxw:(w.alloc (.cells #[.slice (some ⟨ba,off,none⟩) t.length cap,.slice b fr.length capb] 81)).heap[w.heap.size]? = some (.cells #[.slice (some ⟨ba,off,none⟩) t.length cap,.slice b fr.length capb] 81 (0,0)):=heap_alloc_new _ _
 have hbw:Below w.heap.size w (w.alloc (.cells #[.slice (some ⟨ba,off,none⟩) t.length cap,.slice b fr.length capb] 81)):=ba1 _ _
 generalize w.alloc (.cells #[.slice (some ⟨ba,off,none⟩) t.length cap,.slice b fr.length capb] 81) = w0 at *
 have hzw:=lt_of_heap hxw
 obtain ⟨⟨z0,z1⟩,_⟩:=two_block hxw
 have HBW:=Hd hbw
 have HW0:=Hd (HW.out.below hbw)
 have v0:=x0
 rw [← hbw.cell hbl] at v0
 have hbl0:=Nat.lt_of_lt_of_le hbl hbw.size
 clear hxw hbw
 go_upto_region 2 with (go_at_call 42;(with_reducible refine (HPt.out _ HW0.out).mono ?_);rintro e w1 ⟨⟨v,rfl,hrow⟩,hb1⟩;obtain ⟨pa,pc,rfl,hP,_⟩:=hrow.is;have HP:=Hd hP;have HB1:=Ht HBW hb1;have y0:=v0;rw [← hb1.cell hbl0] at y0;have y1:=z0;have y2:=z1;rw [← hb1.cell hzw] at y1 y2;have hz1:=Nat.lt_of_lt_of_le hzw hb1.size;clear hrow hb1 hP)
 go_wp2_with fail
 go_loopg [13] P.length (fun m v13 wy=>∃ i:Nat,i ≤ P.length ∧ i + m = P.length ∧ v13 = .int .i64 (i:Int) ∧ Hid (∀ (j p:Nat),j < i → P[j]? = some p → mayN kd j (kindAt t p) = true) ∧ Hid (Below w1.heap.size w1 wy))
 case atStart=>exact ⟨0,by omega,by omega,rfl,fun j p h=>by omega,Below.refl _ _⟩
 case round=>
  obtain ⟨i,hi,him,rfl,HY,HB⟩:=hrel
  by_cases hlt:i < P.length
  ·have hplt:=HLt.out _ (List.getElem_mem hlt)
   obtain ⟨pb,po,hpa,hpb,c2⟩:=nats_at HP.out hlt
   subst hpa
   obtain ⟨q,hq⟩:∃ q,q = P[i]:=⟨_,rfl⟩
   rw [← hq] at hplt c2
   have HQ:=Hd hq
   clear hq
   obtain ⟨ba2,off2,hba,_,x2⟩:=kind_at HW.out (show q < t.length by omega)
   obtain ⟨rfl,rfl⟩:ba2 = ba ∧ off2 = off:=by simpa using hba.symm
   clear hba
   rw [← (HB1.out.trans (HB.out.mono HB1.out.size)).cell hbl] at x2
   rw [← HB.out.cell (Nat.lt_of_lt_of_le hbl HB1.out.size)] at y0
   rw [← HB.out.cell hz1] at y1 y2
   rw [← HB.out.cell hpb] at c2
   have HM:=Hd (fun w=>may_ok kd (kindAt t q) i w (fun h=>by have:=H25.out h;omega))
   rcases hm:mayN kd i (kindAt t q) with _ | _
   ·have hv:=Hd (show fit = false by rw [hfit.out,mayAll_no (j:=i) (p:=q) (by rw [List.getElem?_eq_getElem hlt,HQ.out]) (by rw [Nat.zero_add];exact hm)];rfl)
    rw [hm] at HM
    clear hm
    generalize kindAt t q = kq at *
    go_upto_region 5 with fail
    go_quiet ((go_at_call 134;exact Calls.quiet_of_same (HM.out _)))
    go_wp2_with fail
    go_ret
    rw [hv.out]
    exact ⟨rfl,blw_drewN (HB1.out.trans (HB.out.mono HB1.out.size)) _⟩
   ·have HY2:=Hd (show ∀ (j p:Nat),j < i + 1 → P[j]? = some p → mayN kd j (kindAt t p) = true from fun j p hj hp=>by
     rcases Nat.lt_or_ge j i with h' | h'
     ·exact HY.out j p h' hp
     ·obtain rfl:j = i:=by omega
      rw [List.getElem?_eq_getElem hlt,← HQ.out] at hp
      obtain rfl:=Option.some.inj hp
      exact hm)
    rw [hm] at HM
    clear hm HY
    generalize kindAt t q = kq at *
    go_upto_region 5 with fail
    go_quiet ((go_at_call 134;exact Calls.quiet_of_same (HM.out _)))
    go_wp2_with fail
    go_roundg (P.length - (i + 1))
    case measure=>omega
    case rel=>exact ⟨i + 1,by omega,by omega,by rw [Int.natCast_add];rfl,HY2,Hd (blw_drewN HB.out _)⟩
  ·obtain rfl:i = P.length:=by omega
   have hall:=Hd (show mayAll t kd 0 P = true from mayAll_yes fun j p hp=>by rw [Nat.zero_add];exact HY.out j p (List.getElem?_eq_some_iff.1 hp).1 hp)
   clear HY
   rw [← HB.out.cell (Nat.lt_of_lt_of_le hbl HB1.out.size)] at y0
   rw [← HB.out.cell hz1] at y1 y2
   by_cases h23:kd = 23
   ·have g23:(kd == 23) = true:=by rw [h23];rfl
    have g23n:(kd != 23) = false:=by rw [h23];rfl
    have hP:=H23.out h23
    by_cases h3:P.length = 2
    ·have t2:decide ((P.length:Int) < 3) = true:=by simp;omega
     have hv:=Hd (show fit = true by rw [hfit.out,hall.out];simp [h3])
     go_upto_region 8 with fail
     go_quiet (fail)
     go_wp2_with fail
     go_ret
     rw [hv.out]
     exact ⟨rfl,blw_drewN (HB1.out.trans (HB.out.mono HB1.out.size)) _⟩
    ·have h3:P.length = 3:=by omega
     have t2:decide ((P.length:Int) < 3) = false:=by simp;omega
     have hP1:1 < P.length:=by omega
     have hplt:=HLt.out _ (List.getElem_mem hP1)
     obtain ⟨pb,po,hpa,hpb,c2⟩:=nats_at HP.out hP1
     subst hpa
     have hv:=Hd (show fit = !openN t fr P[1] by rw [hfit.out,hall.out,(getD_mem hP1).1];simp [h23,h3])
     obtain ⟨q,hq⟩:∃ q,q = P[1]:=⟨_,rfl⟩
     rw [← hq] at hplt c2 hv
     clear hq h23 hall
     rw [← HB.out.cell hpb] at c2
     have HBr:=Hd (HB1.out.trans (HB.out.mono HB1.out.size))
     have hz2:=Nat.lt_of_lt_of_le hz1 HB.out.size
     have hpb2:=Nat.lt_of_lt_of_le hpb HB.out.size
     have hbar:=Nat.lt_of_lt_of_le hbl HBr.out.size
     have HIH:=Hd (fun w' (hb:Below wr.heap.size wr w')=>HOp.out q (by omega) w' (HW.out.below (HBr.out.trans (hb.mono HBr.out.size))))
     go_upto_region 8 with fail
     have HCl:=Hd (show ∀ w',Below wr.heap.size wr w' → w'.cell? ⟨w.heap.size,0,none⟩ = some (.slice (some ⟨ba,off,none⟩) t.length cap) ∧ w'.cell? ⟨w.heap.size,1,none⟩ = some (.slice b fr.length capb) ∧ w'.cell? ⟨pb,po + 1,none⟩ = some (.int .i64 (q:Int)) ∧ w'.cell? ⟨ba,off + k * 6,none⟩ = some (.int .i64 kd) from fun w' hb=>⟨by rw [hb.cell hz2];exact y1,by rw [hb.cell hz2];exact y2,by rw [hb.cell hpb2];exact c2,by rw [hb.cell hbar];exact y0⟩)
     go_region_held3 (fun w'=>w'.cell? ⟨w.heap.size,0,none⟩ = some (.slice (some ⟨ba,off,none⟩) t.length cap) ∧ w'.cell? ⟨w.heap.size,1,none⟩ = some (.slice b fr.length capb) ∧ w'.cell? ⟨pb,po + 1,none⟩ = some (.int .i64 (q:Int)) ∧ w'.cell? ⟨ba,off + k * 6,none⟩ = some (.int .i64 kd)) (first | (refine ⟨?_,?_,?_,?_⟩ <;> assumption) | exact HCl.out _ ((Below.refl _ _).drew) | exact HCl.out _ HB9.out) ((go_at_call 135;(with_reducible refine (HIH.out _ (Below.refl _ _).drew).mono ?_);rintro e w2 ⟨rfl,hb2⟩;have HB9:=Hd (((Below.refl wr.heap.size wr).drew).trans (hb2.mono (Nat.le_refl _)));have HB2:=Hd (HBr.out.trans (HB9.out.mono HBr.out.size));obtain ⟨u1,u2,u3,u4⟩:=HCl.out _ HB9.out;clear hb2))
     go_wp2_with fail
     go_ret
     rw [hv.out]
     exact ⟨by simp,HB2.out⟩
   ·have g23:(kd == 23) = false:=by simpa using h23
    have g23n:(kd != 23) = true:=by rw [bne,g23];rfl
    have hv:=Hd (show fit = true by rw [hfit.out,hall.out];simp [h23])
    go_upto_region 8 with fail
    go_quiet (fail)
    go_wp2_with fail
    go_ret
    rw [hv.out]
    exact ⟨rfl,blw_drewN (HB1.out.trans (HB.out.mono HB1.out.size)) _⟩
end Go.Proofs.YtkokdafkjjcgoaaGreatDoor
