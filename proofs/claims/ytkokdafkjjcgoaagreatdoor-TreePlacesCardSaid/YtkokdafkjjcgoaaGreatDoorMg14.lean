/- Whether a type has the parts that it may have: the program, -/
import Derived.Test.YtkokdafkjjcgoaaGreatDoorMg13
import Derived.Maps.OwnSet
import Derived.Maps.OwnOps
namespace Go.Proofs.YtkokdafkjjcgoaaGreatDoor
open Go.RowKit
theorem shape_ptr (u:Ty) (_hr:Right u) (ih:ShapeC u):ShapeC (.ptr u):=by
 intro w hE
 unfold ShapeC at ih
 have HI:=Hd (ih w hE)
 have hs:shapeT (.ptr u) = shapeT u:=by rw [shapeT]
 rw [hs]
 obtain ⟨h0,hc⟩:=tyB_head (.ptr u)
 have HX:=Hd (tyB_ext (t:=.ptr u) (u:=u) (k:=1) rfl)
 have t1:(((tyB (.ptr u))[0].toNat:Int) == 112) = true:=eq_true' hc
 generalize tyB (.ptr u) = s at *
 have h1:(1:Int) ≤ s.size:=by omega
 generalize shapeT u = b at *
 clear hc hE ih hs _hr
 go_enter Tryz.func201,Tryz.ntmps201
 go_wp2_with fail
 rw [HX.out]
 refine HI.out.mono ?_
 rintro e w1 ⟨rfl,hb1⟩
 go_wp2_with fail
 go_ret
 exact ⟨rfl,hb1⟩
theorem shape_root (t:Ty) (h1:headT t ≠ 112) (h2:headT t ≠ 97) (h3:headT t ≠ 102) (hs:shapeT t = true):ShapeC t:=by
 intro w hE
 rw [hs]
 obtain ⟨h0,hc⟩:=tyB_head t
 have t1:(((tyB t)[0].toNat:Int) == 112) = false:=eq_false' (d:=112) hc h1
 have t2:(((tyB t)[0].toNat:Int) == 97) = false:=eq_false' (d:=97) hc h2
 have t3:(((tyB t)[0].toNat:Int) == 102) = false:=eq_false' (d:=102) hc h3
 generalize tyB t = s at *
 clear hc hE h1 h2 h3 hs
 go_enter Tryz.func201,Tryz.ntmps201
 go_wp2_with fail
 go_ret
 exact ⟨rfl,Below.refl _ _⟩
theorem isVoid_is {t:Ty}:isVoidT t = isC 118 t:=by cases t <;> rfl
theorem head_fn' {t:Ty} (h:Right t):((((tyB t)[0]'(tyB_head t).1).toNat:Int) == 102) = isFnT t:=by
 rw [(tyB_head t).2];exact head_fn h
set_option maxHeartbeats 2000000 in
theorem shape_arr (n:Nat) (u:Ty) (hr:Right (.arr n u)) (hl:(code (.arr n u)).length ≤ 65536) (ih:ShapeC u):ShapeC (.arr n u):=by
 intro w hE
 unfold ShapeC at ih
 have HE:=Hd hE
 have HI:=Hd ih
 have HS:=Hd (fun w hM=>split_arr n u w hr hM hl)
 obtain ⟨h0,hc⟩:=tyB_head (.arr n u)
 have t1:(((tyB (.arr n u))[0].toNat:Int) == 112) = false:=eq_false' (d:=112) hc (by simp [headT])
 have t2:(((tyB (.arr n u))[0].toNat:Int) == 97) = true:=eq_true' hc
 have hv:=one_is hr.2 118
 have hf:=head_fn' hr.2
 have hu0:=(tyB_head u).1
 have hnb:(n:Int) ≤ 1099511627776:=by have:=hr.1;omega
 have hsh:shapeT (.arr n u) = (decide (1 ≤ n ∧ n ≤ 65536) && (objectT u && shapeT u)):=by rw [shapeT]
 generalize tyB (.arr n u) = s at *
 generalize hb:shapeT u = b at *
 clear hc hE ih hr hl
 by_cases hn1:1 ≤ n
 ·by_cases hn2:n ≤ 65536
  ·have t3:(1:Int) ≤ n:=by omega
   have t4:(n:Int) ≤ 65536:=by omega
   rcases h1:isC 118 u with _ | _
   ·rw [h1] at hv
    have hv':((tyB u).toList != [118]) = true:=by rw [bne,hv];rfl
    rcases h2:isFnT u with _ | _
    ·have hfin:=Hd (show shapeT (.arr n u) = b by rw [hsh,objectT,isVoid_is,h1,h2];simp [hn1,hn2])
     rw [h2] at hf
     have hf':(((tyB u)[0].toNat:Int) != 102) = true:=by rw [bne,hf];rfl
     clear hsh h1 h2 hn1 hn2 hb
     go_enter Tryz.func201,Tryz.ntmps201
     go_wp2_with (go_at_call 150;(with_reducible refine (HS.out _ HE.out.maxl).mono ?_))
     rintro e w1 ⟨rfl,hb1⟩
     have HI1:=Hd (HI.out _ (HE.out.below hb1))
     go_wp2_with (go_at_call 201;(with_reducible refine HI1.out.mono ?_))
     rintro e w2 ⟨rfl,hb2⟩
     go_wp2_with fail
     go_ret
     exact ⟨by rw [hfin.out];rfl,hb1.trans (hb2.mono hb1.size)⟩
    ·have hfin:=Hd (show shapeT (.arr n u) = false by rw [hsh,objectT,h2];simp)
     rw [h2] at hf
     have hf':(((tyB u)[0].toNat:Int) != 102) = false:=by rw [bne,hf];rfl
     clear hsh h1 h2 hn1 hn2 hb
     go_enter Tryz.func201,Tryz.ntmps201
     go_wp2_with (go_at_call 150;(with_reducible refine (HS.out _ HE.out.maxl).mono ?_))
     rintro e w1 ⟨rfl,hb1⟩
     go_wp2_with fail
     go_ret
     exact ⟨by rw [hfin.out];rfl,hb1⟩
   ·have hfin:=Hd (show shapeT (.arr n u) = false by rw [hsh,objectT,isVoid_is,h1];simp)
    rw [h1] at hv
    have hv':((tyB u).toList != [118]) = false:=by rw [bne,hv];rfl
    clear hsh h1 hn1 hn2 hb hf
    go_enter Tryz.func201,Tryz.ntmps201
    go_wp2_with (go_at_call 150;(with_reducible refine (HS.out _ HE.out.maxl).mono ?_))
    rintro e w1 ⟨rfl,hb1⟩
    go_wp2_with fail
    go_ret
    exact ⟨by rw [hfin.out];rfl,hb1⟩
  ·have hfin:=Hd (show shapeT (.arr n u) = false by rw [hsh];simp [hn2])
   have t3:(1:Int) ≤ n:=by omega
   have t4:decide ((n:Int) ≤ 65536) = false:=by simp;omega
   clear hsh hn1 hn2 hb hf hv
   go_enter Tryz.func201,Tryz.ntmps201
   go_wp2_with (go_at_call 150;(with_reducible refine (HS.out _ HE.out.maxl).mono ?_))
   rintro e w1 ⟨rfl,hb1⟩
   go_wp2_with fail
   go_ret
   exact ⟨by rw [hfin.out];rfl,hb1⟩
 ·have hfin:=Hd (show shapeT (.arr n u) = false by rw [hsh];simp [hn1])
  have t3:decide ((1:Int) ≤ n) = false:=by simp;omega
  clear hsh hn1 hb hf hv
  go_enter Tryz.func201,Tryz.ntmps201
  go_wp2_with (go_at_call 150;(with_reducible refine (HS.out _ HE.out.maxl).mono ?_))
  rintro e w1 ⟨rfl,hb1⟩
  go_wp2_with fail
  go_ret
  exact ⟨by rw [hfin.out];rfl,hb1⟩
set_option maxHeartbeats 4000000 in
theorem shape_fn (ps:List Ty) (r:Ty) (hr:Right (.fn ps r)) (hl:(code (.fn ps r)).length ≤ 65536) (ih:∀ p ∈ ps,ShapeC p) (ihr:ShapeC r):ShapeC (.fn ps r):=by
 intro w hE
 have hcl:(code (.fn ps r)).length = (codes ps).length + (code r).length + 3:=by rw [code];simp;omega
 have hlr:(code r).length ≤ 65536:=by omega
 have hlp:∀ p ∈ ps,(code p).length ≤ 65536:=fun p hp=>by have:=codes_mem' hp;omega
 have hnl:ps.length ≤ 65536:=by have:=rights_len hr.1;omega
 have HCF:=Hd (fun v B w hE hB=>shape_has ps v ps.length B w hE hB rfl hr.1 hlp ih hnl)
 unfold ShapeC at ihr
 have HE:=Hd hE
 have HI:=Hd ihr
 have HS:=Hd (fun w hK hb=>split_fn ps r w hr hl hK hb)
 have HSc:=Hd (fun b w hE h=>isScal_is b w hE hr.2 hlr h)
 obtain ⟨h0,hc⟩:=tyB_head (.fn ps r)
 have t1:(((tyB (.fn ps r))[0].toNat:Int) == 112) = false:=eq_false' (d:=112) hc (by simp [headT])
 have t2:(((tyB (.fn ps r))[0].toNat:Int) == 97) = false:=eq_false' (d:=97) hc (by simp [headT])
 have t3:(((tyB (.fn ps r))[0].toNat:Int) == 102) = true:=eq_true' hc
 have hv:=one_is hr.2 118
 have hsh:shapeT (.fn ps r) = (decide (ps.length ≤ 8) && ((isVoidT r || isScalarT r) && (shapeT r && shapesT ps))):=by rw [shapeT]
 generalize tyB (.fn ps r) = s at *
 clear hc hE ih ihr hr hl hcl hlr hlp
 by_cases hn:ps.length ≤ 8
 ·have t4:(ps.length:Int) ≤ 8:=by omega
  rcases h1:isC 118 r with _ | _
  ·rw [h1] at hv
   have hv':((tyB r).toList != [118]) = true:=by rw [bne,hv];rfl
   rcases h2:isScalarT r with _ | _
   ·have HScal:=Hd h2
    have hfin:=Hd (show shapeT (.fn ps r) = false by rw [hsh,isVoid_is,h1,h2];simp)
    clear hsh h1 h2 hn
    go_enter Tryz.func201,Tryz.ntmps201
    go_wp2_with (go_at_call 150;(with_reducible refine (HS.out _ HE.out.keys HE.out.lt).mono ?_))
    rintro e w1 ⟨⟨v,rfl,ho⟩,hb1⟩
    obtain ⟨a,cap,rfl,_⟩:=own_formT ho
    have HO:=Hd ho
    have HE1:=Hd (HE.out.below hb1)
    have HB1:=Hd hb1
    clear ho hb1
    go_wp2_with (go_at_call 234;(with_reducible refine (HSc.out false _ HE1.out HScal.out).mono ?_))
    rintro e w2 ⟨rfl,hb2⟩
    have HE2:=Hd (HE1.out.below hb2)
    have HB2:=Ht HB1 hb2
    have HO2:=Hd (HO.out.belowed hb2)
    clear hb2
    go_wp2_with fail
    go_ret
    exact ⟨by rw [hfin.out];rfl,HB2.out⟩
   ·have HScal:=Hd h2
    rcases hsr:shapeT r with _ | _
    ·have HSh:=Hd hsr
     have hfin:=Hd (show shapeT (.fn ps r) = false by rw [hsh,hsr];simp)
     clear hsh hsr hn h1 h2
     go_enter Tryz.func201,Tryz.ntmps201
     go_wp2_with (go_at_call 150;(with_reducible refine (HS.out _ HE.out.keys HE.out.lt).mono ?_))
     rintro e w1 ⟨⟨v,rfl,ho⟩,hb1⟩
     obtain ⟨a,cap,rfl,_⟩:=own_formT ho
     have HO:=Hd ho
     have HE1:=Hd (HE.out.below hb1)
     have HB1:=Hd hb1
     clear ho hb1
     go_wp2_with (go_at_call 234;(with_reducible refine (HSc.out true _ HE1.out HScal.out).mono ?_))
     rintro e w2 ⟨rfl,hb2⟩
     have HE2:=Hd (HE1.out.below hb2)
     have HB2:=Ht HB1 hb2
     have HO2:=Hd (HO.out.belowed hb2)
     clear hb2
     go_wp2_with (go_at_call 201;(with_reducible refine (HI.out _ HE2.out).mono ?_))
     rintro e w3 ⟨rfl,hb3⟩
     rw [HSh.out]
     have HE3:=Hd (HE2.out.below hb3)
     have HB3:=Ht HB2 hb3
     have HO3:=Hd (HO2.out.belowed hb3)
     clear hb3
     go_wp2_with fail
     go_ret
     exact ⟨by rw [hfin.out];rfl,HB3.out⟩
    ·have HSh:=Hd hsr
     have hfin:=Hd (show shapeT (.fn ps r) = shapesT ps by rw [hsh,hsr,isVoid_is,h1,h2];simp [hn])
     clear hsh hsr hn h1 h2
     go_enter Tryz.func201,Tryz.ntmps201
     go_wp2_with (go_at_call 150;(with_reducible refine (HS.out _ HE.out.keys HE.out.lt).mono ?_))
     rintro e w1 ⟨⟨v,rfl,ho⟩,hb1⟩
     obtain ⟨a,cap,rfl,_⟩:=own_formT ho
     have HO:=Hd ho
     have HE1:=Hd (HE.out.below hb1)
     have HB1:=Hd hb1
     clear ho hb1
     go_wp2_with (go_at_call 234;(with_reducible refine (HSc.out true _ HE1.out HScal.out).mono ?_))
     rintro e w2 ⟨rfl,hb2⟩
     have HE2:=Hd (HE1.out.below hb2)
     have HB2:=Ht HB1 hb2
     have HO2:=Hd (HO.out.belowed hb2)
     clear hb2
     go_wp2_with (go_at_call 201;(with_reducible refine (HI.out _ HE2.out).mono ?_))
     rintro e w3 ⟨rfl,hb3⟩
     rw [HSh.out]
     have HE3:=Hd (HE2.out.below hb3)
     have HB3:=Ht HB2 hb3
     have HO3:=Hd (HO2.out.belowed hb3)
     clear hb3
     go_wp2_with (go_at_call 235;(with_reducible refine (HCF.out _ _ _ HE3.out HO3.out).mono ?_))
     rintro e w4 ⟨rfl,hb4⟩
     have HB4:=Ht HB3 hb4
     clear hb4
     go_wp2_with fail
     go_ret
     exact ⟨by rw [hfin.out];simp,HB4.out⟩
  ·rw [h1] at hv
   have hv':((tyB r).toList != [118]) = false:=by rw [bne,hv];rfl
   rcases hsr:shapeT r with _ | _
   ·have HSh:=Hd hsr
    have hfin:=Hd (show shapeT (.fn ps r) = false by rw [hsh,hsr];simp)
    clear hsh hsr hn h1
    go_enter Tryz.func201,Tryz.ntmps201
    go_wp2_with (go_at_call 150;(with_reducible refine (HS.out _ HE.out.keys HE.out.lt).mono ?_))
    rintro e w1 ⟨⟨v,rfl,ho⟩,hb1⟩
    obtain ⟨a,cap,rfl,_⟩:=own_formT ho
    have HO:=Hd ho
    have HE1:=Hd (HE.out.below hb1)
    have HB1:=Hd hb1
    clear ho hb1
    have HE2:=Hd HE1.out
    have HB2:=Hd HB1.out
    have HO2:=Hd HO.out
    go_wp2_with (go_at_call 201;(with_reducible refine (HI.out _ HE2.out).mono ?_))
    rintro e w3 ⟨rfl,hb3⟩
    rw [HSh.out]
    have HE3:=Hd (HE2.out.below hb3)
    have HB3:=Ht HB2 hb3
    have HO3:=Hd (HO2.out.belowed hb3)
    clear hb3
    go_wp2_with fail
    go_ret
    exact ⟨by rw [hfin.out];rfl,HB3.out⟩
   ·have HSh:=Hd hsr
    have hfin:=Hd (show shapeT (.fn ps r) = shapesT ps by rw [hsh,hsr,isVoid_is,h1];simp [hn])
    clear hsh hsr hn h1
    go_enter Tryz.func201,Tryz.ntmps201
    go_wp2_with (go_at_call 150;(with_reducible refine (HS.out _ HE.out.keys HE.out.lt).mono ?_))
    rintro e w1 ⟨⟨v,rfl,ho⟩,hb1⟩
    obtain ⟨a,cap,rfl,_⟩:=own_formT ho
    have HO:=Hd ho
    have HE1:=Hd (HE.out.below hb1)
    have HB1:=Hd hb1
    clear ho hb1
    have HE2:=Hd HE1.out
    have HB2:=Hd HB1.out
    have HO2:=Hd HO.out
    go_wp2_with (go_at_call 201;(with_reducible refine (HI.out _ HE2.out).mono ?_))
    rintro e w3 ⟨rfl,hb3⟩
    rw [HSh.out]
    have HE3:=Hd (HE2.out.below hb3)
    have HB3:=Ht HB2 hb3
    have HO3:=Hd (HO2.out.belowed hb3)
    clear hb3
    go_wp2_with (go_at_call 235;(with_reducible refine (HCF.out _ _ _ HE3.out HO3.out).mono ?_))
    rintro e w4 ⟨rfl,hb4⟩
    have HB4:=Ht HB3 hb4
    clear hb4
    go_wp2_with fail
    go_ret
    exact ⟨by rw [hfin.out];simp,HB4.out⟩
 ·have hfin:=Hd (show shapeT (.fn ps r) = false by rw [hsh];simp [hn])
  have t4:(8:Int) < ps.length:=by omega
  clear hsh hn hv
  go_enter Tryz.func201,Tryz.ntmps201
  go_wp2_with (go_at_call 150;(with_reducible refine (HS.out _ HE.out.keys HE.out.lt).mono ?_))
  rintro e w1 ⟨⟨v,rfl,ho⟩,hb1⟩
  obtain ⟨a,cap,rfl,_⟩:=own_formT ho
  have HO:=Hd ho
  have HE1:=Hd (HE.out.below hb1)
  have HB1:=Hd hb1
  clear ho hb1
  go_wp2_with fail
  go_ret
  exact ⟨by rw [hfin.out];rfl,HB1.out⟩
theorem shape_all:∀ (n:Nat) (t:Ty),(code t).length ≤ n → Right t → (code t).length ≤ 65536 → ShapeC t
 | 0,t,hn,hr,_=>by have:=code_pos hr;omega
 | n + 1,t,hn,hr,hl=>by
   cases t with
   | base c=>exact shape_root _ (by rcases base_six hr with rfl | rfl | rfl | rfl | rfl | rfl <;> decide) (by rcases base_six hr with rfl | rfl | rfl | rfl | rfl | rfl <;> decide) (by rcases base_six hr with rfl | rfl | rfl | rfl | rfl | rfl <;> decide) (by rw [shapeT])
   | str s=>exact shape_root _ (by simp [headT]) (by simp [headT]) (by simp [headT]) (by rw [shapeT])
   | ptr u=>exact shape_ptr u hr (shape_all n u (by rw [code] at hn;simp at hn;omega) hr (by rw [code] at hl;simp at hl;omega))
   | arr m u=>exact shape_arr m u hr hl (shape_all n u (by rw [code] at hn;simp at hn;omega) hr.2 (by rw [code] at hl;simp at hl;omega))
   | fn ps r=>
     refine shape_fn ps r hr hl (fun p hp=>?_) (shape_all n r (by rw [code] at hn;simp at hn;omega) hr.2 (by rw [code] at hl;simp at hl;omega))
     have h1:=codes_mem' hp
     have h2:Right p:=by
      obtain ⟨a,b,rfl⟩:=List.append_of_mem hp
      exact rights_at hr.1
     rw [code] at hn hl
     simp at hn hl
     exact shape_all n p (by omega) h2 (by omega)
end Go.Proofs.YtkokdafkjjcgoaaGreatDoor
namespace Go.Proofs.YtkokdafkjjcgoaaGreatDoor
open Go.RowKit Go.Maps
theorem keyedS:Keyed Tryz.prog 9:=string_keyed Tryz.underlying9
theorem zeroI (w:World):(zeroValue 3).run Tryz.prog w = .ok (.int .i64 0) w:=by kernel_rfl
def lookV (K:List Kn) (s:List UInt8):Int × Bool:=match findK K s with
 | some i=>((i:Nat),true)
 | none=>(0,false)
def NamesAt (w:World) (b:Nat) (K:List Kn):Prop:=∃ D:DataW Unit,w.ownsMap Tryz.prog 9 (plainElem Tryz.prog 3) b K.length D ∧
 ∀ s:List UInt8,has D (.string s) = (lookV K s).2 ∧ D.atKey (.string s) (.lit (.int .i64 0)) = .lit (.int .i64 (lookV K s).1)
theorem NamesAt.look {w:World} {b:Nat} {K:List Kn} (h:NamesAt w b K) {s:ByteArray} (hs:s.size ≤ maxLen) :
 (Instr.lookup 212 (.map (some b)) (.string s) true).run Tryz.prog w = .ok (.tuple #[.int .i64 (lookV K s.data.toList).1,.bool (lookV K s.data.toList).2]) w:=by
 obtain ⟨D,hD,hv⟩:=h
 have hkey:=Go.WideMaps.keyOf_string_mk (P:=Tryz.prog) Tryz.underlying9 hs
 obtain ⟨v,ps,hrun,hR⟩:=hD.look_ok keyedS Tryz.underlying212 (zeroI w) (plainElem_int (H:=Unit) Tryz.underlying3 (by decide)) hkey
 obtain ⟨h1,h2⟩:=hv s.data.toList
 rw [h1] at hrun
 rw [h2] at hR
 obtain ⟨c,rfl,hc,_⟩:=plainElem_int_inv Tryz.underlying3 hR
 have:=congrArg Prod.fst hc
 simp only [DataW.lit.injEq,Lit.int.injEq,true_and] at this
 rw [this];exact hrun
theorem NamesAt.drewN {w:World} {b:Nat} {K:List Kn} (h:NamesAt w b K) (n:Nat):NamesAt (w.drewN n) b K:=h
theorem NamesAt.below {w w':World} {b:Nat} {K:List Kn} (h:NamesAt w b K) (hb:Below w.heap.size w w'):NamesAt w' b K:=by
 obtain ⟨D,hD,hv⟩:=h
 exact ⟨D,hD.kept (row:=none) ⟨hb.os,hb.tape,hb.output,hb.size,fun k hk _=>hb.block k hk⟩ (by simp),hv⟩
structure KnAt (B:Nat) (w:World) (b mb:Nat) (lv sv av:Value) (mv:List Value) (K:List Kn):Prop where
 blk:w.heap[b]? = some (.cells #[lv,.map (some mb),sv,av] 214 (0,0))
 base:B ≤ b ∧ B ≤ mb ∧ b ≠ mb
 names:NamesAt w mb K
 sizes:w.ownsRow B 3 1 sv K.length (K.map fun k=>.int .i64 (k.size:Int))
 aligns:w.ownsRow B 3 1 av K.length (K.map fun k=>.int .i64 (k.align:Int))
 list:w.ownsRow B 114 2 lv K.length ((K.zip mv).flatMap fun q=>[.string q.1.name,q.2])
 mems:mv.length = K.length
 apart:∀ k,(sv.ownBlock = some k → k ≠ b ∧ k ≠ mb ∧ av.ownBlock ≠ some k ∧ lv.ownBlock ≠ some k) ∧ (av.ownBlock = some k → k ≠ b ∧ k ≠ mb ∧ lv.ownBlock ≠ some k) ∧ (lv.ownBlock = some k → k ≠ b ∧ k ≠ mb)
theorem KnAt.below {B b mb:Nat} {w w':World} {lv sv av:Value} {mv:List Value} {K:List Kn} (h:KnAt B w b mb lv sv av mv K) (hb:Below w.heap.size w w'):KnAt B w' b mb lv sv av mv K:=
 ⟨by rw [hb.block b (lt_of_heap h.blk)];exact h.blk,h.base,h.names.below hb,h.sizes.belowed hb,h.aligns.belowed hb,h.list.belowed hb,h.mems,h.apart⟩
theorem KnAt.drewN {B b mb:Nat} {w:World} {lv sv av:Value} {mv:List Value} {K:List Kn} (h:KnAt B w b mb lv sv av mv K) (n:Nat):KnAt B (w.drewN n) b mb lv sv av mv K:=h.below (Below.drewN' w n)
theorem KnAt.cells {B b mb:Nat} {w:World} {lv sv av:Value} {mv:List Value} {K:List Kn} (h:KnAt B w b mb lv sv av mv K):w.cell? ⟨b,0,none⟩ = some lv ∧ w.cell? ⟨b,1,none⟩ = some (.map (some mb)) ∧ w.cell? ⟨b,2,none⟩ = some sv ∧ w.cell? ⟨b,3,none⟩ = some av:=by
 refine ⟨?_,?_,?_,?_⟩ <;> simp [World.cell?,h.blk]
def placeK (K:List Kn) (s:List UInt8):Int:=match findK K s with
 | some i=>(i:Nat)
 | none=>-1
theorem look_place (K:List Kn) (s:List UInt8):(lookV K s).2 = (findK K s).isSome ∧ placeK K s = if (lookV K s).2 = true then (lookV K s).1 else -1:=by
 unfold lookV placeK
 cases findK K s <;> simp
set_option maxHeartbeats 1000000 in
theorem structOf_ok (n:List UInt8) {B b mb:Nat} {w:World} {lv sv av:Value} {mv:List Value} {K:List Kn} (h:KnAt B w b mb lv sv av mv K) (hl:(code (.str n)).length ≤ 65536) :
 Calls Tryz.prog 233 #[.pointer (some ⟨b,0,none⟩),.string (tyB (.str n))] w fun e w'=>e = .returned (.int .i64 (placeK K n)) ∧ ∃ n,w' = w.drewN n:=by
 obtain ⟨_,c1,_,_⟩:=h.cells
 have hx:(tyB (.str n)).extract 1 ((tyB (.str n)).size - 1) = strB n:=strB_eq (by
  have:(tyB (.str n)).size - 1 = 1 + n.length:=by rw [tyB_size,code];simp;omega
  rw [this,extract_take,tyB_sfx,code]
  simp)
 have hlk:∀ m,(Instr.lookup 212 (.map (some mb)) (.string (strB n)) true).run Tryz.prog (w.drewN m) = .ok (.tuple #[.int .i64 (lookV K n).1,.bool (lookV K n).2]) (w.drewN m):=fun m=>by
  have:=(h.names.drewN m).look (s:=strB n) (by rw [strB_size,code] at *;simp at hl;unfold maxLen;omega)
  rw [strB_list] at this
  exact this
 rw [← hx] at hlk
 have hs2:2 ≤ (tyB (.str n)).size:=by rw [tyB_size,code];simp
 have hs3:(tyB (.str n)).size ≤ 65536:=by rw [tyB_size];exact hl
 have HP:=Hd (look_place K n).2
 generalize tyB (.str n) = s at *
 have e1:IntKind.i64.wrap ((s.size:Int) - 1) = (s.size:Int) - 1:=IntWalk.i64_in _ (by omega)
 have e2:((s.size:Int) - 1).toNat = s.size - 1:=by omega
 have e3:(1:Int) ≤ (s.size:Int) - 1:=by omega
 have e4:(s.size:Int) - 1 ≤ s.size:=by omega
 clear h hx hl hs3
 rcases hv:lookV K n with ⟨i,f⟩
 rw [hv] at hlk HP
 cases f with
 | false=>
   have hfin:=Hd (HP.out.trans (if_neg (by simp)))
   clear hv
   go_enter Tryz.func233,Tryz.ntmps233
   go_wp2_with fail
   go_quiet (fail)
   go_wp2
   go_ret
   exact ⟨by rw [hfin.out];rfl,_,rfl⟩
 | true=>
   have hfin:=Hd (HP.out.trans (if_pos rfl))
   clear hv
   go_enter Tryz.func233,Tryz.ntmps233
   go_wp2_with fail
   go_quiet (fail)
   go_wp2
   go_ret
   exact ⟨by rw [hfin.out];rfl,_,rfl⟩
end Go.Proofs.YtkokdafkjjcgoaaGreatDoor
namespace Go.Proofs.YtkokdafkjjcgoaaGreatDoor
open Go.RowKit
theorem place_some {K:List Kn} {n:List UInt8}:decide (0 ≤ placeK K n) = (findK K n).isSome:=by
 unfold placeK
 cases findK K n <;> simp
set_option maxHeartbeats 1000000 in
theorem there_ok {B b mb:Nat} {lv sv av:Value} {mv:List Value} {K:List Kn}:∀ (t:Ty) (w:World),Right t → (code t).length ≤ 65536 → TE w → KnAt B w b mb lv sv av mv K →
 Calls Tryz.prog 202 #[.pointer (some ⟨b,0,none⟩),.string (tyB t)] w fun e w'=>e = .returned (.bool (thereT K t)) ∧ Below w.heap.size w w'
 | .arr n u,w,hr,hl,hE,hK=>by
   have ih:=there_ok (B:=B) (b:=b) (mb:=mb) (lv:=lv) (sv:=sv) (av:=av) (mv:=mv) (K:=K) u
   have HE:=Hd hE
   have HK:=Hd hK
   have HS:=Hd (fun w hM=>split_arr n u w hr hM hl)
   have HI:=Hd (fun w hE hK=>ih w hr.2 (by rw [code] at hl;simp at hl;omega) hE hK)
   obtain ⟨h0,hc⟩:=tyB_head (.arr n u)
   have t1:(((tyB (.arr n u))[0].toNat:Int) == 97) = true:=eq_true' hc
   rw [show thereT K (.arr n u) = thereT K u by rw [thereT]]
   generalize tyB (.arr n u) = s at *
   generalize thereT K u = r at *
   clear hc hE hK ih hr hl
   go_enter Tryz.func202,Tryz.ntmps202
   go_wp2_with (go_at_call 150;(with_reducible refine (HS.out _ HE.out.maxl).mono ?_))
   rintro e w1 ⟨rfl,hb1⟩
   have HI1:=Hd (HI.out _ (HE.out.below hb1) (HK.out.below hb1))
   go_wp2_with (go_at_call 202;(with_reducible refine HI1.out.mono ?_))
   rintro e w2 ⟨rfl,hb2⟩
   go_wp2_with fail
   go_ret
   exact ⟨rfl,hb1.trans (hb2.mono hb1.size)⟩
 | .str n,w,hr,hl,hE,hK=>by
   have HS:=Hd (structOf_ok n hK hl)
   obtain ⟨h0,hc⟩:=tyB_head (.str n)
   have t1:(((tyB (.str n))[0].toNat:Int) == 97) = false:=eq_false' (d:=97) hc (by simp [headT])
   have t2:(((tyB (.str n))[0].toNat:Int) == 83) = true:=eq_true' hc
   rw [show thereT K (.str n) = decide (0 ≤ placeK K n) by rw [thereT,place_some]]
   generalize tyB (.str n) = s at *
   generalize placeK K n = i at *
   clear hc hE hK hr hl
   go_enter Tryz.func202,Tryz.ntmps202
   go_wp2_with (go_at_call 233;(with_reducible refine HS.out.mono ?_);rintro e w1 ⟨rfl,nq,rfl⟩)
   go_ret
   exact ⟨rfl,Below.drewN' w nq⟩
 | .base c,w,hr,_,_,_=>by
   obtain ⟨h0,hc⟩:=tyB_head (.base c)
   have t1:(((tyB (.base c))[0].toNat:Int) == 97) = false:=eq_false' (d:=97) hc (by rcases base_six hr with rfl | rfl | rfl | rfl | rfl | rfl <;> decide)
   have t2:(((tyB (.base c))[0].toNat:Int) == 83) = false:=eq_false' (d:=83) hc (by rcases base_six hr with rfl | rfl | rfl | rfl | rfl | rfl <;> decide)
   rw [show thereT K (.base c) = true by simp [thereT]]
   generalize tyB (.base c) = s at *
   clear hc hr
   go_enter Tryz.func202,Tryz.ntmps202
   go_wp2_with fail
   go_ret
   exact ⟨rfl,Below.refl _ _⟩
 | .ptr u,w,_,_,_,_=>by
   obtain ⟨h0,hc⟩:=tyB_head (.ptr u)
   have t1:(((tyB (.ptr u))[0].toNat:Int) == 97) = false:=eq_false' (d:=97) hc (by simp [headT])
   have t2:(((tyB (.ptr u))[0].toNat:Int) == 83) = false:=eq_false' (d:=83) hc (by simp [headT])
   rw [show thereT K (.ptr u) = true by simp [thereT]]
   generalize tyB (.ptr u) = s at *
   clear hc
   go_enter Tryz.func202,Tryz.ntmps202
   go_wp2_with fail
   go_ret
   exact ⟨rfl,Below.refl _ _⟩
 | .fn ps r,w,_,_,_,_=>by
   obtain ⟨h0,hc⟩:=tyB_head (.fn ps r)
   have t1:(((tyB (.fn ps r))[0].toNat:Int) == 97) = false:=eq_false' (d:=97) hc (by simp [headT])
   have t2:(((tyB (.fn ps r))[0].toNat:Int) == 83) = false:=eq_false' (d:=83) hc (by simp [headT])
   rw [show thereT K (.fn ps r) = true by simp [thereT]]
   generalize tyB (.fn ps r) = s at *
   clear hc
   go_enter Tryz.func202,Tryz.ntmps202
   go_wp2_with fail
   go_ret
   exact ⟨rfl,Below.refl _ _⟩
def FitK (K:List Kn):Prop:=K.length ≤ 64 ∧ ∀ k ∈ K,k.size ≤ 65536 ∧ 1 ≤ k.align ∧ k.align ≤ 4
def capM (p:Nat × Nat):Nat × Nat:=(min p.1 1099511627776,p.2)
def measV (p:Nat × Nat):Value:=.tuple #[.int .i64 (p.1:Int),.int .i64 (p.2:Int)]
theorem find_lt {K:List Kn} {s:List UInt8} {i:Nat} (h:findK K s = some i):i < K.length:=by
 unfold findK at h
 exact (List.findIdx?_eq_some_iff_getElem.1 h).1
theorem meas_str {K:List Kn} {s:List UInt8} {i:Nat} (h:findK K s = some i):measT K (.str s) = ((K[i]'(find_lt h)).size,(K[i]'(find_lt h)).align):=by
 rw [measT,h]
 simp [List.getElem?_eq_getElem (find_lt h)]
theorem cap_arr (n:Nat) (p:Nat × Nat) (h:n ≤ 65536):capM (n * p.1,p.2) = (min (n * (capM p).1) 1099511627776,(capM p).2):=by
 unfold capM
 simp only [Prod.mk.injEq,and_true]
 rcases Nat.le_total p.1 1099511627776 with h1 | h1
 ·rw [Nat.min_eq_left h1]
 ·rw [Nat.min_eq_right h1]
  rcases Nat.eq_zero_or_pos n with rfl | hn
  ·simp
  ·have h2:1099511627776 ≤ n * 1099511627776:=Nat.le_mul_of_pos_left _ hn
   have h3:n * 1099511627776 ≤ n * p.1:=Nat.mul_le_mul_left n h1
   omega
theorem meas_four (t:Ty) (b:Nat) (w:World) (h1:headT t ≠ 99) (h2:headT t ≠ 115) (h3:headT t ≠ 106) (h4:headT t ≠ 97) (h5:headT t ≠ 83) :
 Calls Tryz.prog 199 #[.pointer (some ⟨b,0,none⟩),.string (tyB t)] w fun e w'=>e = .returned (.tuple #[.int .i64 4,.int .i64 4]) ∧ Below w.heap.size w w':=by
 obtain ⟨h0,hc⟩:=tyB_head t
 have t1:(((tyB t)[0].toNat:Int) == 99) = false:=eq_false' (d:=99) hc (h1)
 have t2:(((tyB t)[0].toNat:Int) == 115) = false:=eq_false' (d:=115) hc (h2)
 have t3:(((tyB t)[0].toNat:Int) == 106) = false:=eq_false' (d:=106) hc (h3)
 have t4:(((tyB t)[0].toNat:Int) == 97) = false:=eq_false' (d:=97) hc (h4)
 have t5:(((tyB t)[0].toNat:Int) == 83) = false:=eq_false' (d:=83) hc (h5)
 generalize tyB t = s at *
 clear hc h1 h2 h3 h4 h5
 go_enter Tryz.func199,Tryz.ntmps199
 go_wp2_with fail
 go_ret2
 exact ⟨rfl,Below.refl _ _⟩
theorem meas_c (t:Ty) (b:Nat) (w:World) (h:headT t = 99) :
 Calls Tryz.prog 199 #[.pointer (some ⟨b,0,none⟩),.string (tyB t)] w fun e w'=>e = .returned (.tuple #[.int .i64 1,.int .i64 1]) ∧ Below w.heap.size w w':=by
 obtain ⟨h0,hc⟩:=tyB_head t
 have t1:(((tyB t)[0].toNat:Int) == 99) = true:=by rw [hc,h];rfl
 generalize tyB t = s at *
 clear hc h
 go_enter Tryz.func199,Tryz.ntmps199
 go_wp2_with fail
 go_ret2
 exact ⟨rfl,Below.refl _ _⟩
theorem meas_s (t:Ty) (b:Nat) (w:World) (h:headT t = 115) :
 Calls Tryz.prog 199 #[.pointer (some ⟨b,0,none⟩),.string (tyB t)] w fun e w'=>e = .returned (.tuple #[.int .i64 2,.int .i64 2]) ∧ Below w.heap.size w w':=by
 obtain ⟨h0,hc⟩:=tyB_head t
 have t1:(((tyB t)[0].toNat:Int) == 99) = false:=eq_false' (d:=99) hc (by rw [h];decide)
 have t2:(((tyB t)[0].toNat:Int) == 115) = true:=by rw [hc,h];rfl
 generalize tyB t = s at *
 clear hc h
 go_enter Tryz.func199,Tryz.ntmps199
 go_wp2_with fail
 go_ret2
 exact ⟨rfl,Below.refl _ _⟩
theorem meas_j (t:Ty) (b:Nat) (w:World) (h:headT t = 106) :
 Calls Tryz.prog 199 #[.pointer (some ⟨b,0,none⟩),.string (tyB t)] w fun e w'=>e = .returned (.tuple #[.int .i64 64,.int .i64 4]) ∧ Below w.heap.size w w':=by
 obtain ⟨h0,hc⟩:=tyB_head t
 have t1:(((tyB t)[0].toNat:Int) == 99) = false:=eq_false' (d:=99) hc (by rw [h];decide)
 have t2:(((tyB t)[0].toNat:Int) == 115) = false:=eq_false' (d:=115) hc (by rw [h];decide)
 have t3:(((tyB t)[0].toNat:Int) == 106) = true:=by rw [hc,h];rfl
 generalize tyB t = s at *
 clear hc h
 go_enter Tryz.func199,Tryz.ntmps199
 go_wp2_with fail
 go_ret2
 exact ⟨rfl,Below.refl _ _⟩
set_option maxHeartbeats 1000000 in
theorem meas_S (n:List UInt8) {B b mb:Nat} {w:World} {lv sv av:Value} {mv:List Value} {K:List Kn} (hl:(code (.str n)).length ≤ 65536) (hK:KnAt B w b mb lv sv av mv K) (hF:FitK K) {i:Nat} (hlt:i < K.length) (hi:findK K n = some i) :
 Calls Tryz.prog 199 #[.pointer (some ⟨b,0,none⟩),.string (tyB (.str n))] w fun e w'=>e = .returned (.tuple #[.int .i64 ((K[i]'hlt).size:Int),.int .i64 ((K[i]'hlt).align:Int)]) ∧ Below w.heap.size w w':=by
 have HS:=Hd (show Calls Tryz.prog 233 #[.pointer (some ⟨b,0,none⟩),.string (tyB (.str n))] w fun e w'=>e = .returned (.int .i64 (i:Int)) ∧ ∃ n,w' = w.drewN n by
  have:=structOf_ok n hK hl
  rw [show placeK K n = (i:Int) by unfold placeK;rw [hi]] at this
  exact this)
 obtain ⟨h0,hc⟩:=tyB_head (.str n)
 have t1:(((tyB (.str n))[0].toNat:Int) == 99) = false:=eq_false' (d:=99) hc (by simp [headT])
 have t2:(((tyB (.str n))[0].toNat:Int) == 115) = false:=eq_false' (d:=115) hc (by simp [headT])
 have t3:(((tyB (.str n))[0].toNat:Int) == 106) = false:=eq_false' (d:=106) hc (by simp [headT])
 have t4:(((tyB (.str n))[0].toNat:Int) == 97) = false:=eq_false' (d:=97) hc (by simp [headT])
 have t5:(((tyB (.str n))[0].toNat:Int) == 83) = true:=by rw [hc];rfl
 obtain ⟨_,_,c2,c3⟩:=hK.cells
 obtain ⟨a1,cap1,rfl,hr1⟩:=own_formT hK.sizes
 obtain ⟨a2,cap2,rfl,hr2⟩:=own_formT hK.aligns
 obtain ⟨g1,rfl,_,_,hc1⟩:=hr1 (by omega)
 obtain ⟨g2,rfl,_,_,hc2⟩:=hr2 (by omega)
 have d1:=hc1 i _ (by rw [List.getElem?_map,List.getElem?_eq_getElem hlt];rfl)
 have d2:=hc2 i _ (by rw [List.getElem?_map,List.getElem?_eq_getElem hlt];rfl)
 have hk64:=hF.1
 generalize tyB (.str n) = s at *
 have hi1:(i:Int) < K.length:=by omega
 have hi2:(K.length:Int) ≤ 64:=by omega
 clear hc hl hK hF hi hr1 hr2 hc1 hc2
 go_enter Tryz.func199,Tryz.ntmps199
 go_wp2_with (go_at_call 233;(with_reducible refine HS.out.mono ?_);rintro e w1 ⟨rfl,nq,rfl⟩)
 go_quiet (fail)
 go_wp2
 go_ret2
 exact ⟨rfl,blw_drewN (Below.drewN' w _) _⟩
set_option maxHeartbeats 1000000 in
theorem measure_ok {B b mb:Nat} {lv sv av:Value} {mv:List Value} {K:List Kn}:∀ (t:Ty) (w:World),Right t → (code t).length ≤ 65536 → shapeT t = true → thereT K t = true → TE w → KnAt B w b mb lv sv av mv K → FitK K →
 Calls Tryz.prog 199 #[.pointer (some ⟨b,0,none⟩),.string (tyB t)] w fun e w'=>e = .returned (measV (capM (measT K t))) ∧ Below w.heap.size w w'
 | .base c,w,hr,_,_,_,_,_,_=>by
   rcases base_six hr with rfl | rfl | rfl | rfl | rfl | rfl
   ·exact meas_four _ b w (by decide) (by decide) (by decide) (by decide) (by decide)
   ·exact meas_c _ b w rfl
   ·exact meas_s _ b w rfl
   ·exact meas_four _ b w (by decide) (by decide) (by decide) (by decide) (by decide)
   ·exact meas_four _ b w (by decide) (by decide) (by decide) (by decide) (by decide)
   ·exact meas_j _ b w rfl
 | .ptr u,w,_,_,_,_,_,_,_=>meas_four _ b w (by simp [headT]) (by simp [headT]) (by simp [headT]) (by simp [headT]) (by simp [headT])
 | .fn ps r,w,_,_,_,_,_,_,_=>meas_four _ b w (by simp [headT]) (by simp [headT]) (by simp [headT]) (by simp [headT]) (by simp [headT])
 | .str n,w,hr,hl,_,ht,_,hK,hF=>by
   rw [thereT] at ht
   obtain ⟨i,hi⟩:=Option.isSome_iff_exists.1 ht
   have:=meas_S n hl hK hF (find_lt hi) hi
   have hm:=meas_str hi
   have hs:=(hF.2 (K[i]'(find_lt hi)) (List.getElem_mem _)).1
   rw [show measV (capM (measT K (.str n))) = .tuple #[.int .i64 ((K[i]'(find_lt hi)).size:Int),.int .i64 ((K[i]'(find_lt hi)).align:Int)] by
    rw [hm,capM,measV]
    simp only
    rw [Nat.min_eq_left (by omega)]]
   exact this
 | .arr n u,w,hr,hl,hsh,ht,hE,hK,hF=>by
   have ih:=measure_ok (B:=B) (b:=b) (mb:=mb) (lv:=lv) (sv:=sv) (av:=av) (mv:=mv) (K:=K) u
   have HE:=Hd hE
   have HK:=Hd hK
   rw [shapeT,Bool.and_eq_true,Bool.and_eq_true,decide_eq_true_iff] at hsh
   rw [thereT] at ht
   have HS:=Hd (fun w hM=>split_arr n u w hr hM hl)
   have HI:=Hd (fun w hE hK=>ih w hr.2 (by rw [code] at hl;simp at hl;omega) hsh.2.2 ht hE hK hF)
   obtain ⟨h0,hc⟩:=tyB_head (.arr n u)
   have t1:(((tyB (.arr n u))[0].toNat:Int) == 99) = false:=eq_false' (d:=99) hc (by simp [headT])
   have t2:(((tyB (.arr n u))[0].toNat:Int) == 115) = false:=eq_false' (d:=115) hc (by simp [headT])
   have t3:(((tyB (.arr n u))[0].toNat:Int) == 106) = false:=eq_false' (d:=106) hc (by simp [headT])
   have t4:(((tyB (.arr n u))[0].toNat:Int) == 97) = true:=by rw [hc];rfl
   have hv:measT K (.arr n u) = (n * (measT K u).1,(measT K u).2):=by rw [measT]
   have HV:=Hd (show measV (capM (measT K (.arr n u))) = .tuple #[.int .i64 (min ((n:Int) * ((capM (measT K u)).1:Int)) 1099511627776),.int .i64 ((capM (measT K u)).2:Int)] by
    rw [hv,cap_arr n (measT K u) hsh.1.2,measV]
    have e:((min (n * (capM (measT K u)).1) 1099511627776:Nat):Int) = min ((n:Int) * ((capM (measT K u)).1:Int)) 1099511627776:=by
     rw [← Int.natCast_mul];omega
    simp only [e])
   have hb1:((capM (measT K u)).1:Int) ≤ 1099511627776:=by unfold capM;simp only;omega
   have hn1:(n:Int) ≤ 65536:=by omega
   unfold measV at HI
   generalize capM (measT K u) = p at *
   obtain ⟨p1,p2⟩:=p
   simp only at HV hb1 HI
   have hm0:(0:Int) ≤ (n:Int) * (p1:Int):=by exact_mod_cast Nat.zero_le _
   have hm1:(n:Int) * (p1:Int) ≤ 72057594037927936:=by
    have h1:n * p1 ≤ 65536 * 1099511627776:=Nat.mul_le_mul (by omega) (by omega)
    have:((n * p1:Nat):Int) ≤ ((65536 * 1099511627776:Nat):Int):=by exact_mod_cast h1
    rw [Int.natCast_mul] at this
    omega
   generalize tyB (.arr n u) = s at *
   clear hc hE hK ih hr hl hsh ht hF hv
   go_enter Tryz.func199,Tryz.ntmps199
   go_wp2_with (go_at_call 150;(with_reducible refine (HS.out _ HE.out.maxl).mono ?_))
   rintro e w1 ⟨rfl,hb1⟩
   have HI1:=Hd (HI.out _ (HE.out.below hb1) (HK.out.below hb1))
   go_wp2_with (go_at_call 199;(with_reducible refine HI1.out.mono ?_))
   rintro e w2 ⟨rfl,hb2⟩
   go_wp2_with fail
   go_ret2
   exact ⟨by rw [HV.out];rfl,hb1.trans (hb2.mono hb1.size)⟩
end Go.Proofs.YtkokdafkjjcgoaaGreatDoor
