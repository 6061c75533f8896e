/- A unit looked at: the program -/
import Derived.Test.YtkokdafkjjcgoaaGreatDoorUnitG
import Derived.Below
namespace Go.Proofs.YtkokdafkjjcgoaaGreatDoor
open Go.RowKit
def FaultEnd (p:Int × Int) (w:World) (e:Ending) (w':World):Prop:=e = .returned (.agg #[.int .i64 p.1,.int .i64 p.2]) ∧ Below w.heap.size w w'
theorem faultEnd {p:Int × Int} {x c:Int} {w w':World} (h:p = (x,c)) (hb:Below w.heap.size w w'):FaultEnd p w (.returned (.agg #[.int .i64 x,.int .i64 c])) w':=by subst h;exact ⟨rfl,hb⟩
def FitA {α:Type} (f:α → Int) (L:List α) (i:Nat):Prop:=∀ (j:Nat) (h:j < L.length),j < i → f L[j] = 0
theorem FitA.next {α:Type} {f:α → Int} {L:List α} {i:Nat} (h:FitA f L i) (hi:i < L.length) (h0:f L[i] = 0):FitA f L (i + 1):=fun j hj hji=>by
 rcases Nat.lt_or_ge j i with h' | h'
 ·exact h j hj h'
 ·obtain rfl:j = i:=by omega
  exact h0
theorem unitE_long {u:UnU} (h:64 < u.structs.length ∨ 256 < u.globals.length ∨ 256 < u.funcs.length):unitE u = (0,3):=by unfold unitE;rw [if_pos h]
theorem unitE_struct {u:UnU} (h:¬ (64 < u.structs.length ∨ 256 < u.globals.length ∨ 256 < u.funcs.length)) (hf:(faultN u.structs).2 ≠ 0):unitE u = faultN u.structs:=by unfold unitE;rw [if_neg h,if_pos hf]
theorem unitE_glob {u:UnU} (h:¬ (64 < u.structs.length ∨ 256 < u.globals.length ∨ 256 < u.funcs.length)) (hf:(faultN u.structs).2 = 0) {i:Nat} (hi:i < u.globals.length) (hk:FitA (globE u.structs) u.globals i) (hp:globE u.structs u.globals[i] ≠ 0):unitE u = ((i:Int),globE u.structs u.globals[i]):=by
 unfold unitE
 rw [if_neg h,if_neg (by simp [hf]),firstE_some hi hk hp]
theorem unitE_func {u:UnU} (h:¬ (64 < u.structs.length ∨ 256 < u.globals.length ∨ 256 < u.funcs.length)) (hf:(faultN u.structs).2 = 0) (hg:FitA (globE u.structs) u.globals u.globals.length) {i:Nat} (hi:i < u.funcs.length) (hk:FitA (funcE u.structs) u.funcs i) (hp:funcE u.structs u.funcs[i] ≠ 0):unitE u = ((i:Int),funcE u.structs u.funcs[i]):=by
 unfold unitE
 rw [if_neg h,if_neg (by simp [hf]),firstE_none hg,firstE_some hi hk hp]
theorem unitE_all {u:UnU} (h:¬ (64 < u.structs.length ∨ 256 < u.globals.length ∨ 256 < u.funcs.length)) (hf:(faultN u.structs).2 = 0) (hg:FitA (globE u.structs) u.globals u.globals.length) (hk:FitA (funcE u.structs) u.funcs u.funcs.length):unitE u = (0,0):=by
 unfold unitE
 rw [if_neg h,if_neg (by simp [hf]),firstE_none hg,firstE_none hk]
set_option maxRecDepth 100000 in
set_option maxHeartbeats 16000000 in
theorem checkUnit_ok (u:UnU) (vs vg vf:Value) (w:World) (hE:TE w) (hU:IsUn w.heap.size w u vs vg vf) :
 Calls Tryz.prog 34 #[.agg #[vs,vg,vf]] w (FaultEnd (unitE u) w):=by
 obtain ⟨sa,sc,mv,rfl,hso,hS⟩:=hU.structs
 have HGl:=Hd (fun (i:Nat) (hi:i < u.globals.length)=>glsU_at hU.globals hi)
 have HFl:=Hd (fun (i:Nat) (hi:i < u.funcs.length)=>fnsU_at hU.funcs hi)
 have U1:=Hd (fun h=>unitE_long (u:=u) h)
 have U2:=Hd (fun h hf=>unitE_struct (u:=u) h hf)
 have U3:=Hd (fun h hf (i:Nat) (hi:i < u.globals.length) hk hp=>unitE_glob (u:=u) h hf hi hk hp)
 have U4:=Hd (fun h hf hg (i:Nat) (hi:i < u.funcs.length) hk hp=>unitE_func (u:=u) h hf hg hi hk hp)
 have U5:=Hd (fun h hf hg hk=>unitE_all (u:=u) h hf hg hk)
 obtain ⟨ag,cg,rfl,hlg⟩:=glsU_len hU.globals
 obtain ⟨af,cf,rfl,hlf⟩:=fnsU_len hU.funcs
 have hls:=hso.2.2.1
 have HE:=Hd hE
 have HS:=Hd hS
 clear hE hU hS hso
 generalize unitE u = res at *
 obtain ⟨us,ug,uf⟩:=u
 simp only at *
 go_enter Tryz.func34,Tryz.ntmps34
 go_upto_region 1 with fail
 have hb1:=(ba1 w (.cells #[.slice sa us.length sc,.slice ag ug.length cg,.slice af uf.length cf] 65)).alloc (ba1 w (.cells #[.slice sa us.length sc,.slice ag ug.length cg,.slice af uf.length cf] 65)).size (.cells #[.int .i64 0,.int .i64 0] 68)
 have hxq:((w.alloc (.cells #[.slice sa us.length sc,.slice ag ug.length cg,.slice af uf.length cf] 65)).alloc (.cells #[.int .i64 0,.int .i64 0] 68)).heap[w.heap.size]? = some (.cells #[.slice sa us.length sc,.slice ag ug.length cg,.slice af uf.length cf] 65 (0,0)):=((ba1 (w.alloc (.cells #[.slice sa us.length sc,.slice ag ug.length cg,.slice af uf.length cf] 65)) _).block _ (by simp)).trans (heap_alloc_new _ _)
 have hxr:((w.alloc (.cells #[.slice sa us.length sc,.slice ag ug.length cg,.slice af uf.length cf] 65)).alloc (.cells #[.int .i64 0,.int .i64 0] 68)).heap[w.heap.size + 1]? = some (.cells #[.int .i64 0,.int .i64 0] 68 (0,0)):=by
  have:=heap_alloc_new (w.alloc (.cells #[.slice sa us.length sc,.slice ag ug.length cg,.slice af uf.length cf] 65)) (.cells #[.int .i64 0,.int .i64 0] 68)
  simpa using this
 generalize (w.alloc (.cells #[.slice sa us.length sc,.slice ag ug.length cg,.slice af uf.length cf] 65)).alloc (.cells #[.int .i64 0,.int .i64 0] 68) = w1 at *
 have HQ:=Hd (fun w' (h:Below w1.heap.size w1 w')=>(three_block ((h.block _ (lt_of_heap hxq)).trans hxq)).1)
 have HR:=Hd (fun w' (h:Below w1.heap.size w1 w')=>two_block ((h.block _ (lt_of_heap hxr)).trans hxr))
 have HB1:=Hd hb1
 have HEx:=Hd (fun w' (h:Below w1.heap.size w1 w')=>HE.out.below (hb1.trans (h.mono hb1.size)))
 have HSx:=Hd (fun w' (h:Below w1.heap.size w1 w')=>(HS.out.below (hb1.trans (h.mono hb1.size))).mono (hb1.trans (h.mono hb1.size)).size)
 have HBw:=Hd (fun w' (h:Below w1.heap.size w1 w')=>hb1.trans (h.mono hb1.size))
 clear hb1 hxq hxr
 obtain ⟨q0,q1,q2⟩:=HQ.out w1 (Below.refl _ _)
 by_cases l1:64 < us.length
 ·have t1:decide (64 < (us.length:Int)) = true:=by simp;omega
  have HFin:=Hd (U1.out (.inl l1))
  clear l1
  obtain ⟨⟨d0,d1⟩,fd⟩:=HR.out w1 (Below.refl w1.heap.size w1)
  have fd0:=fd 0
  have fd1:=fd 1
  go_wp2_with fail
  exact bodyPost_ret (v:=.agg #[.int .i64 0,.int .i64 3]) (by simp [results,Tryz.results34,go_sem,d0,d1]) rfl (faultEnd HFin.out ((Below.setCell (Below.setCell (HB1.out.trans ((Below.refl w1.heap.size w1).mono HB1.out.size)) (Nat.le_succ _) _) (Nat.le_succ _) _)))
 have t1:decide (64 < (us.length:Int)) = false:=by simp;omega
 by_cases l2:256 < ug.length
 ·have t2:decide (256 < (ug.length:Int)) = true:=by simp;omega
  have HFin:=Hd (U1.out (.inr (.inl l2)))
  clear l1 l2
  obtain ⟨⟨d0,d1⟩,fd⟩:=HR.out w1 (Below.refl w1.heap.size w1)
  have fd0:=fd 0
  have fd1:=fd 1
  go_wp2_with fail
  exact bodyPost_ret (v:=.agg #[.int .i64 0,.int .i64 3]) (by simp [results,Tryz.results34,go_sem,d0,d1]) rfl (faultEnd HFin.out ((Below.setCell (Below.setCell (HB1.out.trans ((Below.refl w1.heap.size w1).mono HB1.out.size)) (Nat.le_succ _) _) (Nat.le_succ _) _)))
 have t2:decide (256 < (ug.length:Int)) = false:=by simp;omega
 by_cases l3:256 < uf.length
 ·have t3:decide (256 < (uf.length:Int)) = true:=by simp;omega
  have HFin:=Hd (U1.out (.inr (.inr l3)))
  clear l1 l2 l3
  obtain ⟨⟨d0,d1⟩,fd⟩:=HR.out w1 (Below.refl w1.heap.size w1)
  have fd0:=fd 0
  have fd1:=fd 1
  go_wp2_with fail
  exact bodyPost_ret (v:=.agg #[.int .i64 0,.int .i64 3]) (by simp [results,Tryz.results34,go_sem,d0,d1]) rfl (faultEnd HFin.out ((Below.setCell (Below.setCell (HB1.out.trans ((Below.refl w1.heap.size w1).mono HB1.out.size)) (Nat.le_succ _) _) (Nat.le_succ _) _)))
 have t3:decide (256 < (uf.length:Int)) = false:=by simp;omega
 have HLe:=Hd (show ¬ (64 < us.length ∨ 256 < ug.length ∨ 256 < uf.length) from by rintro (h | h | h) <;> omega)
 have hl2:ug.length ≤ 256:=by omega
 have hl3:uf.length ≤ 256:=by omega
 clear l1 l2 l3
 have hst:=structs_ok sa sc us mv w1 (HEx.out w1 (Below.refl _ _)) (HSx.out w1 (Below.refl _ _))
 unfold StructsEnd at hst
 have HFn:=Hd (show faultN us = ((faultN us).1,(faultN us).2) from rfl)
 have V2:=Hd (U2.out HLe.out)
 have V3:=Hd (U3.out HLe.out)
 have V4:=Hd (U4.out HLe.out)
 have V5:=Hd (U5.out HLe.out)
 generalize hfl:faultN us = fl at *
 obtain ⟨fx,fc⟩:=fl
 simp only at hst
 have HSt:=Hd hst
 clear hst hfl
 go_upto_region 4 with (go_at_call 73;(with_reducible refine HSt.out.mono ?_);rintro e w2 ⟨rfl,hb2⟩;have HB2:=Hd hb2;obtain ⟨q0,q1,q2⟩:=HQ.out w2 hb2;clear hb2)
 have hxf:=fault_blk w2 (.int .i64 fx) (.int .i64 fc)
 have hb3:=ba1 w2 (.cells #[.int .i64 fx,.int .i64 fc] 68)
 generalize w2.alloc (.cells #[.int .i64 fx,.int .i64 fc] 68) = w3 at *
 have HB3:=Ht HB2 hb3
 obtain ⟨⟨k0,k1⟩,_⟩:=two_block hxf
 obtain ⟨q0,q1,q2⟩:=HQ.out w3 HB3.out
 clear hxf hb3
 by_cases hf0:fc = 0
 ·have t4:(fc != 0) = false:=by simpa using hf0
  have W3:=Hd (V3.out hf0)
  have W4:=Hd (V4.out hf0)
  have W5:=Hd (V5.out hf0)
  clear hf0
  go_wp2_with fail
  go_loopg [37] ug.length (fun m v37 wy=>∃ (i:Nat),i ≤ ug.length ∧ i + m = ug.length ∧ v37 = .int .i64 (i:Int) ∧ Hid (Below w1.heap.size w1 wy) ∧ Hid (FitA (globE us) ug i))
  case atStart=>exact ⟨0,by omega,by omega,rfl,HB3,Hd (fun j _ h=>by omega)⟩
  case round=>
   obtain ⟨i,hi,him,rfl,HB,HK⟩:=hrel
   obtain ⟨q0,q1,q2⟩:=HQ.out wr HB.out
   by_cases hlt:i < ug.length
   ·obtain ⟨b,off,cq,v,hsq,hblt,hG,c0,c1,c2,c3,c4⟩:=HGl.out i hlt
    obtain ⟨rfl,rfl⟩:ag = some ⟨b,off,none⟩ ∧ cg = cq:=by simpa using hsq
    obtain ⟨ai,ci,hvs⟩:=trs_len hG.init
    subst hvs
    have hwb:=HBw.out wr HB.out
    rw [← hwb.cell hblt] at c0 c1 c2 c3 c4
    have HNx:=Hd (fun h0=>HK.out.next hlt h0)
    have HBad:=Hd (fun hp=>W3.out i hlt HK.out hp)
    have HGc:=Hd (fun w' (h:Below w1.heap.size w1 w')=>glob9_ok (ug[i]'hlt) _ sa sc us mv w' (HEx.out w' h) ((hG.below (HBw.out w' h) (Nat.le_refl _)).mono (HBw.out w' h).size) (HSx.out w' h))
    unfold CodeEnd at HGc
    generalize (ug[i]'hlt).init.length = n9 at *
    generalize ug[i]'hlt = g at *
    generalize globE us g = ge at *
    clear hsq hG
    go_upto_region 9 with fail
    have hxg:=(show (wr.alloc (.cells #[.int .i64 g.at_,.string g.var.name,.string g.var.type,.bool g.var.vol,.slice ai n9 ci] 118)).heap[wr.heap.size]? = some (.cells #[.int .i64 g.at_,.string g.var.name,.string g.var.type,.bool g.var.vol,.slice ai n9 ci] 118 (0,0)) from heap_alloc_new _ _)
    have hba:=ba1 wr (.cells #[.int .i64 g.at_,.string g.var.name,.string g.var.type,.bool g.var.vol,.slice ai n9 ci] 118)
    generalize wr.alloc (.cells #[.int .i64 g.at_,.string g.var.name,.string g.var.type,.bool g.var.vol,.slice ai n9 ci] 118) = wa at *
    have HBa:=Ht HB hba
    obtain ⟨⟨y0,y1,y2,y3,y4⟩,_⟩:=five_block hxg
    obtain ⟨q0,q1,q2⟩:=HQ.out wa HBa.out
    have HGa:=Hd (HGc.out wa HBa.out)
    clear hxg hba c0 c1 c2 c3 c4
    by_cases hge:ge = 0
    ·subst hge
     have HN7:=Hd (HNx.out rfl)
     go_wp2_with (go_at_call 74;(with_reducible refine HGa.out.mono ?_);rintro e w6 ⟨rfl,hb6⟩;have HB6:=Ht HBa hb6;clear hb6)
     go_roundg (ug.length - (i + 1))
     case measure=>omega
     case rel=>exact ⟨i + 1,by omega,by omega,by rw [Int.natCast_add];rfl,HB6,HN7⟩
    ·have t5:(ge != 0) = true:=by simpa using hge
     have HFin:=Hd (HBad.out hge)
     clear hge
     go_upto_region 11 with (go_at_call 74;(with_reducible refine HGa.out.mono ?_);rintro e w6 ⟨rfl,hb6⟩;have HB6:=Ht HBa hb6;clear hb6)
     obtain ⟨⟨d0,d1⟩,fd⟩:=HR.out w6 HB6.out
     have fd0:=fd 0
     have fd1:=fd 1
     go_wp2_with fail
     exact bodyPost_ret (v:=.agg #[.int .i64 (i:Int),.int .i64 ge]) (by simp [results,Tryz.results34,go_sem,d0,d1]) rfl (faultEnd HFin.out ((Below.setCell (Below.setCell (HB1.out.trans (HB6.out.mono HB1.out.size)) (Nat.le_succ _) _) (Nat.le_succ _) _)))
   ·obtain rfl:i = ug.length:=by omega
    have X4:=Hd (W4.out HK.out)
    have X5:=Hd (W5.out HK.out)
    have HBg:=HB
    go_wp2_with fail
    go_loopg [55] uf.length (fun m v55 wy=>∃ (i:Nat),i ≤ uf.length ∧ i + m = uf.length ∧ v55 = .int .i64 (i:Int) ∧ Hid (Below w1.heap.size w1 wy) ∧ Hid (FitA (funcE us) uf i))
    case atStart=>exact ⟨0,by omega,by omega,rfl,HBg,Hd (fun j _ h=>by omega)⟩
    case round=>
     obtain ⟨i,hi,him,rfl,HB,HK⟩:=hrel
     obtain ⟨q0,q1,q2⟩:=HQ.out wr HB.out
     by_cases hlt:i < uf.length
     ·obtain ⟨b,off,cq,vp,vb,hsq,hblt,hG,c0,c1,c2,c3,c4⟩:=HFl.out i hlt
      obtain ⟨rfl,rfl⟩:af = some ⟨b,off,none⟩ ∧ cf = cq:=by simpa using hsq
      obtain ⟨ap,cp,hvs,_⟩:=hG.params
      subst hvs
      obtain ⟨ab,cb,hvs,_⟩:=hG.body
      subst hvs
      have hwb:=HBw.out wr HB.out
      rw [← hwb.cell hblt] at c0 c1 c2 c3 c4
      have HNx:=Hd (fun h0=>HK.out.next hlt h0)
      have HBad:=Hd (fun hp=>X4.out i hlt HK.out hp)
      have HGc:=Hd (fun w' (h:Below w1.heap.size w1 w')=>func9_ok (uf[i]'hlt) _ _ sa sc us mv w' (HEx.out w' h) ((hG.below (HBw.out w' h) (Nat.le_refl _)).mono (HBw.out w' h).size) (HSx.out w' h))
      unfold CodeEnd at HGc
      generalize (uf[i]'hlt).params.length = np at *
      generalize (uf[i]'hlt).body.length = nb at *
      generalize uf[i]'hlt = g at *
      generalize funcE us g = ge at *
      clear hsq hG
      go_upto_region 16 with fail
      have hxg:=(show (wr.alloc (.cells #[.int .i64 g.at_,.string g.name,.string g.type,.slice ap np cp,.slice ab nb cb] 77)).heap[wr.heap.size]? = some (.cells #[.int .i64 g.at_,.string g.name,.string g.type,.slice ap np cp,.slice ab nb cb] 77 (0,0)) from heap_alloc_new _ _)
      have hba:=ba1 wr (.cells #[.int .i64 g.at_,.string g.name,.string g.type,.slice ap np cp,.slice ab nb cb] 77)
      generalize wr.alloc (.cells #[.int .i64 g.at_,.string g.name,.string g.type,.slice ap np cp,.slice ab nb cb] 77) = wa at *
      have HBa:=Ht HB hba
      obtain ⟨⟨y0,y1,y2,y3,y4⟩,_⟩:=five_block hxg
      obtain ⟨q0,q1,q2⟩:=HQ.out wa HBa.out
      have HGa:=Hd (HGc.out wa HBa.out)
      clear hxg hba c0 c1 c2 c3 c4
      by_cases hge:ge = 0
      ·subst hge
       have HN7:=Hd (HNx.out rfl)
       go_wp2_with (go_at_call 75;(with_reducible refine HGa.out.mono ?_);rintro e w6 ⟨rfl,hb6⟩;have HB6:=Ht HBa hb6;clear hb6)
       go_roundg (uf.length - (i + 1))
       case measure=>omega
       case rel=>exact ⟨i + 1,by omega,by omega,by rw [Int.natCast_add];rfl,HB6,HN7⟩
      ·have t5:(ge != 0) = true:=by simpa using hge
       have HFin:=Hd (HBad.out hge)
       clear hge
       go_upto_region 18 with (go_at_call 75;(with_reducible refine HGa.out.mono ?_);rintro e w6 ⟨rfl,hb6⟩;have HB6:=Ht HBa hb6;clear hb6)
       obtain ⟨⟨d0,d1⟩,fd⟩:=HR.out w6 HB6.out
       have fd0:=fd 0
       have fd1:=fd 1
       go_wp2_with fail
       exact bodyPost_ret (v:=.agg #[.int .i64 (i:Int),.int .i64 ge]) (by simp [results,Tryz.results34,go_sem,d0,d1]) rfl (faultEnd HFin.out ((Below.setCell (Below.setCell (HB1.out.trans (HB6.out.mono HB1.out.size)) (Nat.le_succ _) _) (Nat.le_succ _) _)))
     ·obtain rfl:i = uf.length:=by omega
      have HFin:=Hd (X5.out HK.out)
      obtain ⟨⟨d0,d1⟩,fd⟩:=HR.out wr HB.out
      have fd0:=fd 0
      have fd1:=fd 1
      go_wp2_with fail
      exact bodyPost_ret (v:=.agg #[.int .i64 0,.int .i64 0]) (by simp [results,Tryz.results34,go_sem,d0,d1]) rfl (faultEnd HFin.out ((Below.setCell (Below.setCell (HB1.out.trans (HB.out.mono HB1.out.size)) (Nat.le_succ _) _) (Nat.le_succ _) _)))
 ·have t4:(fc != 0) = true:=by simpa using hf0
  have HFin:=Hd ((V2.out hf0).trans rfl)
  clear hf0
  obtain ⟨⟨d0,d1⟩,fd⟩:=HR.out w3 HB3.out
  have fd0:=fd 0
  have fd1:=fd 1
  go_wp2_with fail
  exact bodyPost_ret (v:=.agg #[.int .i64 fx,.int .i64 fc]) (by simp [results,Tryz.results34,go_sem,d0,d1]) rfl (faultEnd HFin.out ((Below.setCell (Below.setCell (HB1.out.trans (HB3.out.mono HB1.out.size)) (Nat.le_succ _) _) (Nat.le_succ _) _)))
end Go.Proofs.YtkokdafkjjcgoaaGreatDoor
namespace Go.Proofs.YtkokdafkjjcgoaaGreatDoor
open Go.RowKit Go.Maps
structure Bnd where
 kind:Int
 idx:Int
 type:ByteArray
deriving DecidableEq
theorem own_put {w:World} {base n g cap k c:Nat} {T:TypeId} {xs:List Value} {u:Value} (h:w.ownsRow base T k (.slice (some ⟨g,0,none⟩) n cap) n xs):(w.setCell ⟨g,c,none⟩ u).ownsRow base T k (.slice (some ⟨g,0,none⟩) n cap) n (xs.set c u):=by
 obtain ⟨hl,h⟩:=h
 rcases h with ⟨h,_⟩ | ⟨g',cap',cur,e,hb,hg,hn,hc,hs,ht⟩
 ·cases h
 ·simp only [Value.slice.injEq,Option.some.injEq,Addr.mk.injEq,and_true] at e
  obtain ⟨rfl,_,rfl⟩:=e
  refine ⟨by simpa using hl,.inr ⟨g,cap,cur.setIfInBounds c u,rfl,hb,?_,hn,hc,by simpa using hs,?_⟩⟩
  ·simp [World.setCell,Array.getElem?_modify,hg]
  ·rw [Array.toList_setIfInBounds,List.take_set,ht]
theorem own_rowAt {α:Type} {k:Nat} {cells:α → List Value} (hk:∀ a,(cells a).length = k) {w:World} {base n:Nat} {T:TypeId} {v:Value} {L:List α} (h:w.ownsRow base T k v n (L.flatMap cells)) (hn:n = L.length) {i:Nat} (hi:i < L.length) :
 ∃ g cap,v = .slice (some ⟨g,0,none⟩) n cap ∧ base ≤ g ∧ g < w.heap.size ∧ n ≤ cap ∧ cap ≤ maxLen ∧ (∀ j c,(cells L[i])[j]? = some c → w.cell? ⟨g,i * k + j,none⟩ = some c) ∧ ∀ j,w.frozen? ⟨g,j,none⟩ = false:=by
 have h0:=h
 obtain ⟨hl,h⟩:=h
 rcases h with ⟨_,h⟩ | ⟨g,cap,cur,rfl,hb,hg,hn,hc,hs,ht⟩
 ·omega
 ·exact ⟨g,cap,rfl,hb,lt_of_heap hg,hn,hc,fun j c hj=>own_cell hk h0 (List.getElem?_eq_getElem hi) hj,fun j=>by simp [World.frozen?,hg]⟩
theorem own_move {w w':World} {A B:Nat} {T:TypeId} {k n:Nat} {v:Value} {xs:List Value} (h:w.ownsRow B T k v n xs) (hA:A ≤ B) (hw:∀ k,B ≤ k → w'.heap[k]? = w.heap[k]?):w'.ownsRow A T k v n xs:=by
 obtain ⟨h1,h2⟩:=h
 refine ⟨h1,?_⟩
 rcases h2 with h2 | ⟨g,cap,cur,e,hb,hg,h3⟩
 ·exact .inl h2
 ·exact .inr ⟨g,cap,cur,e,Nat.le_trans hA hb,(hw g hb).trans hg,h3⟩
end Go.Proofs.YtkokdafkjjcgoaaGreatDoor
namespace Go.Proofs.YtkokdafkjjcgoaaGreatDoor
open Go.RowKit
theorem infoVr:(Tryz.prog.info? 116).map (fun i=>(i.zero,i.size,i.bytes)) = some (some (.agg #[.string ⟨#[]⟩,.string ⟨#[]⟩,.bool false]),3,40):=by kernel_rfl
theorem vr_one (t:List VrU):∀ u ∈ t.flatMap vrCells,u.oneCell' = true:=fun u hu=>by
 obtain ⟨x,_,hx⟩:=List.mem_flatMap.1 hu
 simp only [vrCells,List.mem_cons,List.not_mem_nil,or_false] at hx
 rcases hx with rfl | rfl | rfl <;> rfl
end Go.Proofs.YtkokdafkjjcgoaaGreatDoor
