/- A unit copied: the program's walk. -/
import Derived.Test.YtkokdafkjjcgoaaGreatDoorMg37
namespace Go.Proofs.YtkokdafkjjcgoaaGreatDoor
open Go.RowKit
theorem infoStU:(Tryz.prog.info? 114).map (fun i=>(i.zero,i.size,i.bytes)) = some (some (.agg #[.string ⟨#[]⟩,.slice none 0 0]),2,40):=by kernel_rfl
theorem infoGlU:(Tryz.prog.info? 118).map (fun i=>(i.zero,i.size,i.bytes)) = some (some (.agg #[.int .i64 0,.string ⟨#[]⟩,.string ⟨#[]⟩,.bool false,.slice none 0 0]),5,72):=by kernel_rfl
theorem infoFnCU:(Tryz.prog.info? 77).map (fun i=>(i.zero,i.size,i.bytes)) = some (some (.agg #[.int .i64 0,.string ⟨#[]⟩,.string ⟨#[]⟩,.slice none 0 0,.slice none 0 0]),5,88):=by kernel_rfl
theorem infoTrU:(Tryz.prog.info? 23).map (fun i=>(i.zero,i.size,i.bytes)) = some (some (.slice none 0 0),1,24):=by kernel_rfl
theorem three_allocs (w:World) (o0 o1 o2:Obj):let w3:=((w.alloc o0).alloc o1).alloc o2
 (w3.heap[w.heap.size]? = some o0 ∧ w3.heap[w.heap.size + 1]? = some o1 ∧ w3.heap[w.heap.size + 1 + 1]? = some o2) ∧ Below w.heap.size w w3 ∧ w.heap.size + 3 ≤ w3.heap.size ∧ w3.heap.size ≤ w.heap.size + 3:=by
 have key:∀ (w:World) (o:Obj) {b:Nat} {x:Obj},w.heap[b]? = some x → (w.alloc o).heap[b]? = some x:=fun w o b x h=>(Below.heap_alloc _ _ _ (lt_of_heap h)).trans h
 have n0:=heap_alloc_new w o0
 have n1:=heap_alloc_new (w.alloc o0) o1
 have n2:=heap_alloc_new ((w.alloc o0).alloc o1) o2
 simp only [World.size_alloc] at n1 n2
 refine ⟨⟨key _ _ (key _ _ n0),key _ _ n1,n2⟩,(((Below.refl w.heap.size w).alloc (Nat.le_refl _) o0).alloc (by simp) o1).alloc (by simp;omega) o2,by simp,by simp⟩
def CopyUEnd (u:UnU) (w:World) (e:Ending) (w':World):Prop:=(∃ vs vg vf M Q,e = .returned (.agg #[vs,vg,vf]) ∧ UnC w.heap.size w' u vs vg vf M Q) ∧ Below w.heap.size w w'
set_option maxRecDepth 100000 in
set_option maxHeartbeats 32000000 in
theorem copyUnit_ok (u:UnU) (vs vg vf:Value) (w:World) (hU:IsUn w.heap.size w u vs vg vf) :
 Calls Tryz.prog 31 #[.agg #[vs,vg,vf]] w (CopyUEnd u w):=by
 obtain ⟨i0,hi,hz0,hz1,hz2⟩:=info_parts infoStU
 have HI0:=Hd (And.intro hi (And.intro hz0 (And.intro hz1 hz2)))
 clear hi hz0 hz1 hz2
 obtain ⟨i1,hi,hz0,hz1,hz2⟩:=info_parts infoMe
 have HI1:=Hd (And.intro hi (And.intro hz0 (And.intro hz1 hz2)))
 clear hi hz0 hz1 hz2
 obtain ⟨i3,hi,hz0,hz1,hz2⟩:=info_parts infoTrU
 have HI3:=Hd (And.intro hi (And.intro hz0 (And.intro hz1 hz2)))
 clear hi hz0 hz1 hz2
 obtain ⟨i4,hi,hz0,hz1,hz2⟩:=info_parts infoGlU
 have HI4:=Hd (And.intro hi (And.intro hz0 (And.intro hz1 hz2)))
 clear hi hz0 hz1 hz2
 obtain ⟨i5,hi,hz0,hz1,hz2⟩:=info_parts infoFnCU
 have HI5:=Hd (And.intro hi (And.intro hz0 (And.intro hz1 hz2)))
 clear hi hz0 hz1 hz2
 obtain ⟨i6,hi,hz0,hz1,hz2⟩:=info_parts infoVr
 have HI6:=Hd (And.intro hi (And.intro hz0 (And.intro hz1 hz2)))
 clear hi hz0 hz1 hz2
 have HGl:=Hd (fun (i:Nat) (hi:i < u.globals.length)=>glsU_at hU.globals hi)
 have HFl:=Hd (fun (i:Nat) (hi:i < u.funcs.length)=>fnsU_at hU.funcs hi)
 obtain ⟨sa,sc,mv,rfl,hso,hS⟩:=hU.structs
 obtain ⟨ag,cg,rfl,hlg⟩:=glsU_len hU.globals
 obtain ⟨af,cf,rfl,hlf⟩:=fnsU_len hU.funcs
 have hls:=hso.2.2.1
 have HS:=Hd hS
 have HSo:=Hd hso
 clear hU hS hso
 obtain ⟨⟨hx0,hx1,hx3⟩,hb3,hz3,hz3'⟩:=three_allocs w (.cells #[.slice sa u.structs.length sc,.slice ag u.globals.length cg,.slice af u.funcs.length cf] 65) (.cells #[.slice none 0 0,.slice none 0 0,.slice none 0 0] 65) (.cells #[.slice none 0 0,.slice none 0 0,.slice none 0 0] 65)
 go_enter Tryz.func31,Tryz.ntmps31
 go_upto_region 2 with fail
 generalize ((w.alloc (.cells #[.slice sa u.structs.length sc,.slice ag u.globals.length cg,.slice af u.funcs.length cf] 65)).alloc (.cells #[.slice none 0 0,.slice none 0 0,.slice none 0 0] 65)).alloc (.cells #[.slice none 0 0,.slice none 0 0,.slice none 0 0] 65) = w3 at *
 generalize hr3:w.heap.size + 1 + 1 = r3 at *
 have hr3':r3 < w3.heap.size:=lt_of_heap hx3
 have hr3a:w.heap.size + 2 ≤ r3:=by omega
 have hr3b:w3.heap.size ≤ r3 + 1:=by omega
 have HX0:=Hd hx0
 have HX1:=Hd hx1
 have HX3:=Hd hx3
 have HB3:=Hd hb3
 have HXx:=Hd (show ∀ wy,w3.grownBy wy (some r3) → (wy.heap[w.heap.size]? = some (.cells #[.slice sa u.structs.length sc,.slice ag u.globals.length cg,.slice af u.funcs.length cf] 65 (0,0)) ∧ wy.heap[w.heap.size + 1]? = some (.cells #[.slice none 0 0,.slice none 0 0,.slice none 0 0] 65 (0,0)) ∧ Below w.heap.size w wy) from fun wy hg=>by
  have h1:∀ k,k < w.heap.size + 2 → wy.heap[k]? = w3.heap[k]?:=fun k hk=>hg.block k (by omega) (fun e=>by have:=Option.some.inj e;omega)
  exact ⟨(h1 _ (by omega)).trans HX0.out,(h1 _ (by omega)).trans HX1.out,HB3.out.grown hg (by omega) (fun k e=>by cases e;omega)⟩)
 clear hx0 hx1 hx3 hb3 hr3
 go_upto_region 3 with fail
 go_loopg [4] u.structs.length (fun m v4 wy=>∃ (i:Nat) (Qn:List (Sr × Value)) (v0:Value),i ≤ u.structs.length ∧ i + m = u.structs.length ∧ v4 = .int .i64 (i:Int) ∧ Qn.length = i ∧ Hid (Qn.map Prod.fst = u.structs.take i) ∧ Hid (SrsRowU w3.heap.size wy v0 Qn) ∧ (∃ a c,v0 = .slice a i c) ∧
  Hid (wy.heap[r3]? = some (.cells #[v0,.slice none 0 0,.slice none 0 0] 65 (0,0))) ∧ Hid (w3.grownBy wy (some r3)))
 case atStart=>exact ⟨0,[],_,by omega,by omega,rfl,rfl,Hd rfl,Hd (rowU_nil _ _),⟨_,_,rfl⟩,HX3,Hd (World.grownBy.refl _ _)⟩
 case round=>
  obtain ⟨i,Qn,v0,hi,hig,rfl,hqn,HQn,HRow,⟨a0,c0,hv0⟩,HXr,HG⟩:=hrel
  subst hv0
  obtain ⟨X0,X1,XB⟩:=HXx.out _ HG.out
  have HXB:=Hd XB
  obtain ⟨⟨d0,d1,d2⟩,_⟩:=three_block X0
  by_cases hlt:i < u.structs.length
  ·obtain ⟨bb,off,ha,hbl,hrow⟩:=HS.out.at_ (fun e=>by rw [e] at hlt;simp at hlt)
   subst ha
   have hlm:i < mv.length:=by rw [HS.out.len];exact hlt
   obtain ⟨c1,c2,hms⟩:=hrow i _ _ (List.getElem?_eq_getElem hlt) (List.getElem?_eq_getElem hlm)
   rw [← XB.cell hbl] at c1 c2
   have HTk:=Hd (List.take_succ_eq_append_getElem hlt)
   have hnm:=HS.out.names _ (List.getElem_mem hlt)
   have hm32:=HSo.out.2.2.2.1 _ (List.getElem_mem hlt)
   have hnl:=HSo.out.2.2.2.2.1 _ (List.getElem_mem hlm)
   generalize u.structs[i]'hlt = x at *
   generalize mv[i]'hlm = uu at *
   have HMs:=Hd hms
   obtain ⟨am,cm,rfl,_⟩:=hms
   have HNl:=Hd (hnl x.mems.length cm)
   have hwx:w.heap.size < wr.heap.size:=lt_of_heap X0
   have hr3r:r3 < wr.heap.size:=lt_of_heap HXr.out
   have hbw:bb < wr.heap.size:=Nat.lt_of_lt_of_le hbl XB.size
   obtain ⟨⟨x30,x31,x32⟩,z3⟩:=three_block HXr.out
   have z30:=z3 0
   have HNm:=Hd hnm
   have HM32:=Hd hm32
   clear hrow hnl hlm X0 X1 XB hnm z3 x31 x32 d1 d2
   have HRw:=Hd (show wr.ownsRow w3.heap.size 114 2 (.slice a0 i c0) i (Qn.flatMap srCellsU) by have:=HRow.out.1;rw [hqn] at this;exact this)
   have HMw:=Hd (show ∀ w',Below wr.heap.size wr w' → IsMems w.heap.size w' (.slice am x.mems.length cm) x.mems from fun w' hb=>HMs.out.below (HXB.out.trans (hb.mono HXB.out.size)) (Nat.le_refl _))
   have hil:(i:Int) < (u.structs.length:Int):=by omega
   have hi0:(0:Int) ≤ (i:Int):=by omega
   have HNums:=Hd (show 0 + x.mems.length ≤ maxLen ∧ (0 + x.mems.length) * 32 ≤ 140737488355328 ∧ i + 1 ≤ maxLen ∧ (i + 1) * 40 ≤ 140737488355328 ∧ w3.heap.size ≤ wr.heap.size from ⟨by unfold maxLen;omega,by omega,by unfold maxLen;omega,by omega,HG.out.size⟩)
   have HMl:=Hd (show (flat2 (pairM x.mems)).length = x.mems.length * 2 by rw [flat2_length,pairM_length])
   have HCl:=Hd (show ∀ w':World,(∀ b,b < w3.heap.size → w'.heap[b]? = wr.heap[b]?) → w'.cell? ⟨w.heap.size,0,none⟩ = some (.slice (some ⟨bb,off,none⟩) u.structs.length sc) ∧ w'.cell? ⟨r3,0,none⟩ = some (.slice a0 i c0) ∧ w'.cell? ⟨bb,off + i * 2,none⟩ = some (.string x.name) ∧ w'.cell? ⟨bb,off + i * 2 + 1,none⟩ = some (.slice am x.mems.length cm) from fun w' hb=>⟨by rw [cell_sameU (hb _ (by omega))];exact d0,by rw [cell_sameU (hb _ hr3')];exact x30,by rw [cell_sameU (hb _ (by omega))];exact c1,by rw [cell_sameU (hb _ (by omega))];exact c2⟩)
   have HCb:=Hd (fun w' (h:Below wr.heap.size wr w')=>HCl.out w' (fun b hb=>h.block b (Nat.lt_of_lt_of_le hb HG.out.size)))
   have HNx:=Hd (fun (w3' w5:World) (o:Obj) (v1:Value) (g cap:Nat) h1 h2 h3 h4 h5=>srs_next (x:=x) (v1:=v1) (o:=o) (w3:=w3') (w5:=w5) (g:=g) (cap:=cap) hr3' HRow.out hqn HXr.out rfl HG.out HNm.out HM32.out h1 h2 h3 h4 h5)
   go_upto_region 5 with fail
   refine wp_region_any (by kernel_rfl) ?_
   change wpAny _ _ _ _ _ _ _ (World.drew _)
   have hb4:Below wr.heap.size wr wr.drew:=(Below.refl _ _).drew
   generalize wr.drew = w4 at *
   have HB4:=Hd hb4
   have HS4:=Hd (HCb.out w4 hb4)
   clear hb4 x30 d0 c1 c2
   -- TAKES5
   refine wpAny_take (i:=0) (v:=.pointer (some ⟨r3,0,none⟩)) rfl (by kernel_rfl) (by kernel_rfl) (by kernel_rfl) (fun _ _ _ h=>h) (Or.inl ⟨by rfl,fun w=>by go_simp⟩) ?_
   refine wpAny_take (i:=2) (v:=.pointer (some ⟨w.heap.size,0,none⟩)) rfl (by kernel_rfl) (by kernel_rfl) (by kernel_rfl) (fun _ _ _ h=>h) (Or.inl ⟨by rfl,fun w=>by go_simp⟩) ?_
   refine wpAny_take (i:=4) (v:=.int .i64 (i:Int)) rfl (by kernel_rfl) (by kernel_rfl) (by kernel_rfl) (fun _ _ _ h=>h) (Or.inl ⟨by rfl,fun w=>by go_simp⟩) ?_
   refine wpAny_take (i:=9) (v:=.pointer (some ⟨w.heap.size,0,none⟩)) rfl (by kernel_rfl) (by kernel_rfl) (by kernel_rfl) (fun _ _ _ h=>h) (Or.inl ⟨by rfl,fun w=>by go_simp⟩) ?_
   refine wpAny_take (i:=11) (v:=.int .i64 (i:Int)) rfl (by kernel_rfl) (by kernel_rfl) (by kernel_rfl) (fun _ _ _ h=>h) (Or.inl ⟨by rfl,fun w=>by go_simp⟩) ?_
   refine wpAny_of_T (S:=fun w'=>w'.cell? ⟨w.heap.size,0,none⟩ = some (.slice (some ⟨bb,off,none⟩) u.structs.length sc) ∧ w'.cell? ⟨r3,0,none⟩ = some (.slice a0 i c0) ∧ w'.cell? ⟨bb,off + i * 2,none⟩ = some (.string x.name) ∧ w'.cell? ⟨bb,off + i * 2 + 1,none⟩ = some (.slice am x.mems.length cm)) (T:=([20]:List Nat).contains) _ _ _ _ ?_
   refine wpAnyT_take (i:=1) (v:=.slice a0 i c0) rfl (by kernel_rfl) (by kernel_rfl) (by kernel_rfl) (by kernel_rfl) (by kernel_rfl) (fun _ _ _ h=>h) HS4.out (Or.inl ⟨by rfl,?_⟩) ?_
   ·intro wz hS
    have s0:=hS.1
    have s1:=hS.2.1
    have s2:=hS.2.2.1
    have s3:=hS.2.2.2
    clear hS
    go_simp
    exact ⟨rfl,rfl⟩
   refine wpAnyT_take (i:=3) (v:=.slice (some ⟨bb,off,none⟩) u.structs.length sc) rfl (by kernel_rfl) (by kernel_rfl) (by kernel_rfl) (by kernel_rfl) (by kernel_rfl) (fun _ _ _ h=>h) HS4.out (Or.inl ⟨by rfl,?_⟩) ?_
   ·intro wz hS
    have s0:=hS.1
    have s1:=hS.2.1
    have s2:=hS.2.2.1
    have s3:=hS.2.2.2
    clear hS
    go_simp
    exact ⟨rfl,rfl⟩
   refine wpAnyT_take (i:=5) (v:=.pointer (some ⟨bb,off + i * 2,none⟩)) rfl (by kernel_rfl) (by kernel_rfl) (by kernel_rfl) (by kernel_rfl) (by kernel_rfl) (fun _ _ _ h=>h) HS4.out (Or.inl ⟨by rfl,?_⟩) ?_
   ·intro wz hS
    have s0:=hS.1
    have s1:=hS.2.1
    have s2:=hS.2.2.1
    have s3:=hS.2.2.2
    clear hS
    go_simp
    exact ⟨rfl,rfl⟩
   refine wpAnyT_take (i:=6) (v:=.pointer (some ⟨bb,off + i * 2,none⟩)) rfl (by kernel_rfl) (by kernel_rfl) (by kernel_rfl) (by kernel_rfl) (by kernel_rfl) (fun _ _ _ h=>h) HS4.out (Or.inl ⟨by rfl,?_⟩) ?_
   ·intro wz hS
    have s0:=hS.1
    have s1:=hS.2.1
    have s2:=hS.2.2.1
    have s3:=hS.2.2.2
    clear hS
    go_simp
    exact ⟨rfl,rfl⟩
   refine wpAnyT_take (i:=7) (v:=.string x.name) rfl (by kernel_rfl) (by kernel_rfl) (by kernel_rfl) (by kernel_rfl) (by kernel_rfl) (fun _ _ _ h=>h) HS4.out (Or.inl ⟨by rfl,?_⟩) ?_
   ·intro wz hS
    have s0:=hS.1
    have s1:=hS.2.1
    have s2:=hS.2.2.1
    have s3:=hS.2.2.2
    clear hS
    go_simp
    exact ⟨rfl,rfl⟩
   refine wpAnyT_take (i:=10) (v:=.slice (some ⟨bb,off,none⟩) u.structs.length sc) rfl (by kernel_rfl) (by kernel_rfl) (by kernel_rfl) (by kernel_rfl) (by kernel_rfl) (fun _ _ _ h=>h) HS4.out (Or.inl ⟨by rfl,?_⟩) ?_
   ·intro wz hS
    have s0:=hS.1
    have s1:=hS.2.1
    have s2:=hS.2.2.1
    have s3:=hS.2.2.2
    clear hS
    go_simp
    exact ⟨rfl,rfl⟩
   refine wpAnyT_take (i:=12) (v:=.pointer (some ⟨bb,off + i * 2,none⟩)) rfl (by kernel_rfl) (by kernel_rfl) (by kernel_rfl) (by kernel_rfl) (by kernel_rfl) (fun _ _ _ h=>h) HS4.out (Or.inl ⟨by rfl,?_⟩) ?_
   ·intro wz hS
    have s0:=hS.1
    have s1:=hS.2.1
    have s2:=hS.2.2.1
    have s3:=hS.2.2.2
    clear hS
    go_simp
    exact ⟨rfl,rfl⟩
   refine wpAnyT_take (i:=13) (v:=.pointer (some ⟨bb,off + i * 2 + 1,none⟩)) rfl (by kernel_rfl) (by kernel_rfl) (by kernel_rfl) (by kernel_rfl) (by kernel_rfl) (fun _ _ _ h=>h) HS4.out (Or.inl ⟨by rfl,?_⟩) ?_
   ·intro wz hS
    have s0:=hS.1
    have s1:=hS.2.1
    have s2:=hS.2.2.1
    have s3:=hS.2.2.2
    clear hS
    go_simp
    exact ⟨rfl,rfl⟩
   refine wpAnyT_take (i:=14) (v:=.slice am x.mems.length cm) rfl (by kernel_rfl) (by kernel_rfl) (by kernel_rfl) (by kernel_rfl) (by kernel_rfl) (fun _ _ _ h=>h) HS4.out (Or.inl ⟨by rfl,?_⟩) ?_
   ·intro wz hS
    have s0:=hS.1
    have s1:=hS.2.1
    have s2:=hS.2.2.1
    have s3:=hS.2.2.2
    clear hS
    go_simp
    exact ⟨rfl,rfl⟩
   -- TAKEN5
   have hz4:=HB4.out.size
   have hb5:=HB4.out.trans ((ba1 w4 (.cells #[] 140)).mono HB4.out.size)
   refine wpAnyT_one (i:=8) (by kernel_rfl) ?_
   refine wpOp_keep rfl (by rfl) (fun K' hK'=>?_)
   go_simp
   refine hK' _ _ (HCb.out _ hb5) ?_
   clear hK' K'
   cases am with
   | none=>
     obtain ⟨h0,h00⟩:=HNl.out rfl
     have hms0:x.mems = []:=List.eq_nil_of_length_eq_zero h0
     have HO1:=Hd (show (w4.alloc (.cells #[] 140)).ownsRow wr.heap.size 140 2 (.slice (some ⟨w4.heap.size,0,none⟩) 0 0) x.mems.length (flat2 (pairM x.mems)) by rw [hms0];exact own_nil (heap_alloc_new _ _) hz4)
     have HN0:=Hd (show Value.slice none x.mems.length cm = .slice none 0 0 by rw [h0,h00])
     clear hms0 hm32 h0 h00
     refine wpAnyT_one (i:=15) (by kernel_rfl) ?_
     refine wpOp_keep rfl (by rfl) (fun K' hK'=>?_)
     refine step_append_none (by rfl) _ _ _ (by rfl) wr.heap.size 140 i1 2 Tryz.underlying112 HI1.out.1 _ 0 [] (by rfl) (own_nil (heap_alloc_new _ _) hz4) (Eq.trans (b:=Value.slice none x.mems.length cm) (by rfl) HN0.out) ?_
     refine hK' _ _ (HCb.out _ hb5) ?_
     clear hK' K'
     have HB5:=Hd hb5
     clear hb5
     generalize hg4:w4.heap.size = g4 at *
     generalize w4.alloc (.cells #[] 140) = w5 at *
     refine wpAnyT_one (i:=16) (by kernel_rfl) ?_
     refine wpOp_keep rfl (by rfl) (fun K' hK'=>?_)
     go_simp
     refine hK' _ _ (HCb.out _ HB5.out) ?_
     clear hK' K'
     refine wpAnyT_one (i:=17) (by kernel_rfl) ?_
     refine wpOp_keep rfl (by rfl) (fun K' hK'=>?_)
     go_simp
     have hb6:=HB5.out.trans ((ba1 w5 (.cells #[.string x.name,.slice (some ⟨g4,0,none⟩) 0 0] 114)).mono HB5.out.size)
     refine hK' _ _ (HCb.out _ hb6) ?_
     clear hK' K'
     refine wpAnyT_one (i:=18) (by kernel_rfl) ?_
     refine wpOp_keep rfl (by rfl) (fun K' hK'=>?_)
     refine step_append_lies _ (by rfl) _ _ _ (by rfl) w3.heap.size 114 i0 (.agg #[.string ⟨#[]⟩,.slice none 0 0]) 2 40 Tryz.underlying61 HI0.out.1 HI0.out.2.1 HI0.out.2.2.1 HI0.out.2.2.2 (by rfl) (by decide) (.slice a0 i c0) i (Qn.flatMap srCellsU) (by rfl) (HRw.out.belowed hb6) ⟨w5.heap.size,0,none⟩ 1 1 [.string x.name,.slice (some ⟨g4,0,none⟩) 0 0] (by rfl) (by rfl) (news2 (T:=114) (heap_alloc_new _ _)) (by simp [Value.oneCell']) (by decide) HNums.out.2.2.1 HNums.out.2.2.2.1 (Nat.le_trans HNums.out.2.2.2.2 hb6.size) (w5.heap.size + 1) (by simp) ?_
     intro g cp w7 hown hgrow hat hlt7
     obtain ⟨⟨k0,k1⟩,n1,n2,n3⟩:=HNx.out _ w7 _ _ g cp HB5.out HO1.out hown hgrow (by rcases hat with h | h;exact .inl h;exact .inr h)
     have HE1:=Hd n1
     have HE2:=Hd n2
     have HE3:=Hd n3
     have hs7:=HCl.out w7 (fun b hb=>(hgrow.block b (Nat.lt_of_lt_of_le hb (Nat.le_trans HNums.out.2.2.2.2 hb6.size)) (fun e=>by have:=(HRw.out.lt b e.symm).1;omega)).trans (hb6.block b (Nat.lt_of_lt_of_le hb HNums.out.2.2.2.2)))
     refine hK' _ _ hs7 ?_
     clear hK' K' hown hgrow hat hlt7 n1 n2 n3
     refine wpAnyT_take (i:=19) (v:=.pointer (some ⟨r3,0,none⟩)) rfl (by kernel_rfl) (by kernel_rfl) (by kernel_rfl) (by kernel_rfl) (by kernel_rfl) (fun _ _ _ h=>h) hs7 (Or.inl ⟨by rfl,?_⟩) ?_
     ·intro wz hS
      clear hS
      go_simp
      exact ⟨rfl,rfl⟩
     clear hs7
     refine wpAnyT_one (i:=20) (by kernel_rfl) ?_
     refine wpOp_last rfl (by rfl) (fun K' hK'=>?_)
     go_simp
     refine hK' _ _ ?_
     clear hK' K' k0 k1
     generalize w7.setCell ⟨r3,0,none⟩ (.slice (some ⟨g,0,none⟩) (i + 1) cp) = w8 at *
     refine wpAny_done (by kernel_rfl) ?_ _
     go_wp2_with fail
     go_roundg (u.structs.length - (i + 1))
     case measure=>omega
     case rel=>exact ⟨i + 1,Qn ++ [(x,.slice (some ⟨g4,0,none⟩) 0 0)],_,by omega,by omega,by rw [Int.natCast_add];rfl,by rw [List.length_append,hqn];rfl,Hd (by rw [List.map_append,HQn.out,HTk.out];rfl),HE1,⟨_,_,rfl⟩,HE2,HE3⟩
   | some ad=>
     have hown4:(w4.alloc (.cells #[] 140)).ownsRow wr.heap.size 140 2 (.slice (some ⟨w4.heap.size,0,none⟩) 0 0) 0 []:=own_nil (heap_alloc_new _ _) hz4
     refine wpAnyT_one (i:=15) (by kernel_rfl) ?_
     refine wpOp_keep rfl (by rfl) (fun K' hK'=>?_)
     refine step_append_own (by rfl) _ _ _ (by rfl) wr.heap.size 140 i1 (.agg #[.string ⟨#[]⟩,.string ⟨#[]⟩]) 2 32 Tryz.underlying112 HI1.out.1 HI1.out.2.1 HI1.out.2.2.1 HI1.out.2.2.2 (by rfl) (by decide) (.slice (some ⟨w4.heap.size,0,none⟩) 0 0) 0 [] (by rfl) hown4 ad x.mems.length cm (flat2 (pairM x.mems)) (by rfl) HMl.out (mems_news (HMw.out _ hb5)) (mems_one _) HNums.out.1 HNums.out.2.1 (Nat.le_trans hz4 (ba1 _ _).size) ?_
     intro v1 w5 hown1 hgrow1 _
     have HO1:=Hd (show w5.ownsRow wr.heap.size 140 2 v1 x.mems.length (flat2 (pairM x.mems)) by simpa using hown1)
     have HB5:=Hd (show Below wr.heap.size wr w5 from hb5.grown hgrow1 hb5.size (fun k hk=>by simp [Value.ownBlock] at hk;omega))
     obtain ⟨a1,c1,rfl,_⟩:=own_mems HO1.out
     refine hK' _ _ (HCb.out _ HB5.out) ?_
     clear hK' K' hown1 hgrow1 hown4 hb5
     refine wpAnyT_one (i:=16) (by kernel_rfl) ?_
     refine wpOp_keep rfl (by rfl) (fun K' hK'=>?_)
     go_simp
     refine hK' _ _ (HCb.out _ HB5.out) ?_
     clear hK' K'
     refine wpAnyT_one (i:=17) (by kernel_rfl) ?_
     refine wpOp_keep rfl (by rfl) (fun K' hK'=>?_)
     go_simp
     have hb6:=HB5.out.trans ((ba1 w5 (.cells #[.string x.name,.slice a1 x.mems.length c1] 114)).mono HB5.out.size)
     refine hK' _ _ (HCb.out _ hb6) ?_
     clear hK' K'
     refine wpAnyT_one (i:=18) (by kernel_rfl) ?_
     refine wpOp_keep rfl (by rfl) (fun K' hK'=>?_)
     refine step_append_lies _ (by rfl) _ _ _ (by rfl) w3.heap.size 114 i0 (.agg #[.string ⟨#[]⟩,.slice none 0 0]) 2 40 Tryz.underlying61 HI0.out.1 HI0.out.2.1 HI0.out.2.2.1 HI0.out.2.2.2 (by rfl) (by decide) (.slice a0 i c0) i (Qn.flatMap srCellsU) (by rfl) (HRw.out.belowed hb6) ⟨w5.heap.size,0,none⟩ 1 1 [.string x.name,.slice a1 x.mems.length c1] (by rfl) (by rfl) (news2 (T:=114) (heap_alloc_new _ _)) (by simp [Value.oneCell']) (by decide) HNums.out.2.2.1 HNums.out.2.2.2.1 (Nat.le_trans HNums.out.2.2.2.2 hb6.size) (w5.heap.size + 1) (by simp) ?_
     intro g cp w7 hown hgrow hat hlt7
     obtain ⟨⟨k0,k1⟩,n1,n2,n3⟩:=HNx.out _ w7 _ _ g cp HB5.out HO1.out hown hgrow (by rcases hat with h | h;exact .inl h;exact .inr h)
     have HE1:=Hd n1
     have HE2:=Hd n2
     have HE3:=Hd n3
     have hs7:=HCl.out w7 (fun b hb=>(hgrow.block b (Nat.lt_of_lt_of_le hb (Nat.le_trans HNums.out.2.2.2.2 hb6.size)) (fun e=>by have:=(HRw.out.lt b e.symm).1;omega)).trans (hb6.block b (Nat.lt_of_lt_of_le hb HNums.out.2.2.2.2)))
     refine hK' _ _ hs7 ?_
     clear hK' K' hown hgrow hat hlt7 n1 n2 n3
     refine wpAnyT_take (i:=19) (v:=.pointer (some ⟨r3,0,none⟩)) rfl (by kernel_rfl) (by kernel_rfl) (by kernel_rfl) (by kernel_rfl) (by kernel_rfl) (fun _ _ _ h=>h) hs7 (Or.inl ⟨by rfl,?_⟩) ?_
     ·intro wz hS
      clear hS
      go_simp
      exact ⟨rfl,rfl⟩
     clear hs7
     refine wpAnyT_one (i:=20) (by kernel_rfl) ?_
     refine wpOp_last rfl (by rfl) (fun K' hK'=>?_)
     go_simp
     refine hK' _ _ ?_
     clear hK' K' k0 k1
     generalize w7.setCell ⟨r3,0,none⟩ (.slice (some ⟨g,0,none⟩) (i + 1) cp) = w8 at *
     refine wpAny_done (by kernel_rfl) ?_ _
     go_wp2_with fail
     go_roundg (u.structs.length - (i + 1))
     case measure=>omega
     case rel=>exact ⟨i + 1,Qn ++ [(x,.slice a1 x.mems.length c1)],_,by omega,by omega,by rw [Int.natCast_add];rfl,by rw [List.length_append,hqn];rfl,Hd (by rw [List.map_append,HQn.out,HTk.out];rfl),HE1,⟨_,_,rfl⟩,HE2,HE3⟩
  ·obtain rfl:i = u.structs.length:=by omega
   obtain ⟨wG,hwG⟩:∃ y,y = wr:=⟨_,rfl⟩
   subst hwG
   have hsts:=SrsRowU.p HRow.out (by omega)
   rw [HQn.out,List.take_length] at hsts
   have HSts:=Hd hsts
   have HGG:=Hd HG.out
   have hr3g:r3 < wG.heap.size:=lt_of_heap HXr.out
   have hz3g:w3.heap.size ≤ wG.heap.size:=HG.out.size
   clear hsts hlt X0 X1 XB d1 d2
   go_upto_region 7 with fail
   clear d0
   go_loopg [5] u.globals.length (fun m v5 wy=>∃ (i:Nat) (Qn:List (GlU × Value)) (v1:Value),i ≤ u.globals.length ∧ i + m = u.globals.length ∧ v5 = .int .i64 (i:Int) ∧ Qn.length = i ∧ Hid (Qn.map Prod.fst = u.globals.take i) ∧ Hid (GlsRowU wG.heap.size wy v1 Qn) ∧ (∃ a c,v1 = .slice a i c) ∧
    Hid (wy.heap[r3]? = some (.cells #[.slice a0 u.structs.length c0,v1,.slice none 0 0] 65 (0,0))) ∧ Hid (wG.grownBy wy (some r3)))
   case atStart=>exact ⟨0,[],_,by omega,by omega,rfl,rfl,Hd rfl,Hd (rowU_nil _ _),⟨_,_,rfl⟩,HXr,Hd (World.grownBy.refl _ _)⟩
   case round=>
    obtain ⟨i,Qn,v1,hi,hig,rfl,hqn,HQn,HRow,⟨a1,c1,hv1⟩,HXr,HG⟩:=hrel
    subst hv1
    obtain ⟨wo,hwo⟩:∃ y,y = wr:=⟨_,rfl⟩
    subst hwo
    obtain ⟨X0,X1,XB⟩:=HXx.out _ (HGG.out.trans HG.out)
    have HXB:=Hd XB
    obtain ⟨⟨d0,d1,d2⟩,_⟩:=three_block X0
    by_cases hlt:i < u.globals.length
    ·obtain ⟨bb,off,cap',q,he,hbl,hgl,e0,e1,e2,e3,e4⟩:=HGl.out i hlt
     obtain ⟨rfl,rfl⟩:ag = some ⟨bb,off,none⟩ ∧ cg = cap':=by simpa using he
     rw [← XB.cell hbl] at e0 e1 e2 e3 e4
     have HTk:=Hd (List.take_succ_eq_append_getElem hlt)
     generalize u.globals[i]'hlt = gl at *
     obtain ⟨ga,⟨gn,gt,gv⟩,gi⟩:=gl
     obtain ⟨hvr,hat,⟨ai,ci,Qi,rfl,hoi,hQi,hsi,hti⟩⟩:=hgl
     simp only at hvr hat e0 e1 e2 e3 e4 hQi hoi
     subst hQi
     rw [List.length_map] at hoi e4
     have HSi:=Hd hsi
     have HTi:=Hd hti
     have hgz:=hoi.1
     have hgc:=hoi.2.1
     have HHd:=Hd (And.intro hvr hat)
     have hr3r:r3 < wo.heap.size:=lt_of_heap HXr.out
     have hil:(i:Int) < (u.globals.length:Int):=by omega
     have hx5:=heap_alloc_new wo (.cells #[.int .i64 ga,.string gn,.string gt,.bool gv,.slice ai Qi.length ci] 118)
     have hb5:=ba1 wo (.cells #[.int .i64 ga,.string gn,.string gt,.bool gv,.slice ai Qi.length ci] 118)
     have hz5:=Nat.le_of_eq (show wo.heap.size + 1 = (wo.alloc (.cells #[.int .i64 ga,.string gn,.string gt,.bool gv,.slice ai Qi.length ci] 118)).heap.size by simp)
     have HNums:=Hd (show i + 1 ≤ maxLen ∧ (i + 1) * 72 ≤ 140737488355328 from ⟨by unfold maxLen;omega,by omega⟩)
     clear hsi hti hoi hvr hat he X0 X1 XB d2
     go_upto_region 10 with fail
     generalize wo.alloc (.cells #[.int .i64 ga,.string gn,.string gt,.bool gv,.slice ai Qi.length ci] 118) = w5 at *
     have HX5:=Hd hx5
     have HB5:=Hd hb5
     have HBw5:=Ht HXB hb5
     have HO0:=Hd (show TrsRowU w5.heap.size (w5.alloc (.cells #[] 23)) (.slice (some ⟨w5.heap.size,0,none⟩) 0 0) [] from ⟨own_nil (heap_alloc_new _ _) (Nat.le_refl _),fun q hq=>by cases hq⟩)
     have HB0:=Hd (ba1 w5 (.cells #[] 23))
     clear hx5 hb5 e0 e1 e2 e3 e4 d0 d1
     go_upto_region 12 with fail
     go_loopg [7,8] Qi.length (fun m v7 v8 wz=>∃ (k:Nat) (Qt:List (List Nd × Value)),k ≤ Qi.length ∧ k + m = Qi.length ∧ v8 = .int .i64 (k:Int) ∧ Qt.length = k ∧ Hid (Qt.map Prod.fst = (Qi.map Prod.fst).take k) ∧ Hid (TrsRowU w5.heap.size wz v7 Qt) ∧ (∃ a c,v7 = .slice a k c) ∧ Hid (Below w5.heap.size w5 wz))
     case atStart=>exact ⟨0,[],by omega,by omega,rfl,rfl,Hd rfl,HO0,⟨_,_,rfl⟩,HB0⟩
     case round=>
      obtain ⟨k,Qt,hk,hkm,rfl,hqt,HQt,HRt,⟨a7,c7,rfl⟩,HBz⟩:=hrel
      have hx5:=(HBz.out.block _ (lt_of_heap HX5.out)).trans HX5.out
      obtain ⟨⟨g0,g1,g2,g3,g4⟩,z5⟩:=five_block hx5
      by_cases hlk:k < Qi.length
      ·obtain ⟨bi,oi,hai,hbi,hci⟩:=HSi.out (fun e=>by rw [e] at hlk;simp at hlk)
       subst hai
       have t0:=hci k _ (List.getElem?_eq_getElem hlk) 0 _ rfl
       have hBw:=HBw5.out.trans (HBz.out.mono HBw5.out.size)
       rw [← hBw.cell hbi] at t0
       rw [Nat.mul_one,Nat.add_zero] at t0
       have htk:=HTi.out _ (List.getElem_mem hlk)
       have HTk2:=Hd (show (Qi.map Prod.fst).take (k + 1) = (Qi.map Prod.fst).take k ++ [(Qi[k]'hlk).1] by
        rw [List.take_succ_eq_append_getElem (by simpa using hlk)];simp)
       generalize Qi[k]'hlk = q at *
       obtain ⟨T,vt⟩:=q
       obtain ⟨at_,ct,ev,hot,hst,hvt⟩:=htk
       simp only at t0 hot hst hvt HTk2 ev
       subst ev
       have HOt:=Hd (And.intro hot hvt)
       have HCt:=Hd (copyTree_ok at_ ct T wr ((hst.below hBw (Nat.le_refl _)).mono hBw.size) hot.1 (fun e=>⟨List.eq_nil_of_length_eq_zero (hot.2.2.2 e).1,(hot.2.2.2 e).2⟩))
       have HRr:=Hd (show wr.ownsRow w5.heap.size 23 1 (.slice a7 k c7) k (Qt.flatMap trCells) by have:=HRt.out.1;rw [hqt] at this;exact this)
       have hkl:(k:Int) < (Qi.length:Int):=by omega
       have HNum3:=Hd (show k + 1 ≤ maxLen ∧ (k + 1) * 24 ≤ 140737488355328 ∧ w5.heap.size ≤ wr.heap.size from ⟨by unfold maxLen;omega,by omega,HBz.out.size⟩)
       clear hot hst hvt hBw hci hx5 g0 g1 g2 g3 z5
       go_wp2_with (first
        | (go_at_call 9;(with_reducible refine HCt.out.mono ?_);rintro e w6 ⟨⟨v6,rfl,hown6⟩,hb6⟩;obtain ⟨a6,c6,rfl⟩:=own_slice hown6;have HO6:=Hd hown6;have HB6:=Hd hb6;clear hown6 hb6)
        | (at_builtin;go_loud (refine wpList_append_lies _ rfl _ _ _ rfl w5.heap.size 23 i3 (.slice none 0 0) 1 24 Tryz.underlying52 HI3.out.1 HI3.out.2.1 HI3.out.2.2.1 HI3.out.2.2.2 rfl (by decide) (.slice a7 k c7) k (Qt.flatMap trCells) rfl ((HRr.out.belowed HB6.out).belowed (ba1 _ _)) ⟨_,0,none⟩ 1 1 [.slice a6 T.length c6] rfl rfl (World.news_of_block (cs:=#[.slice a6 T.length c6]) (heap_alloc_new _ _)) (by simp [Value.oneCell']) (by decide) HNum3.out.1 HNum3.out.2.1 (Nat.le_trans HNum3.out.2.2 (Nat.le_trans HB6.out.size (ba1 _ _).size)) _ rfl ?_)))
       intro g cp w11 hown hgr hat _
       have hpush:=trs_push HNum3.out.2.2 HRt.out HOt.out.1 HOt.out.2 hqt HO6.out HB6.out hown hgr (by rcases hat with h | h;exact .inl h;exact .inr (by rw [h];simp))
       have HE1:=Hd hpush
       have HE2:=Hd (show Below w5.heap.size w5 w11 from (HBz.out.trans ((HB6.out.trans ((ba1 w6 _).mono HB6.out.size)).mono HBz.out.size)).grown hgr (Nat.le_trans HNum3.out.2.2 (Nat.le_trans HB6.out.size (ba1 _ _).size)) (fun b e=>(HRt.out.1.lt b e).1))
       clear hpush hown hgr hat g4 t0
       go_wp2_with fail
       go_roundg (Qi.length - (k + 1))
       case measure=>omega
       case rel=>exact ⟨k + 1,Qt ++ [(T,.slice a6 T.length c6)],by omega,by omega,by rw [Int.natCast_add];rfl,by rw [List.length_append,hqt];rfl,Hd (by rw [List.map_append,HQt.out,HTk2.out];rfl),HE1,⟨_,_,rfl⟩,HE2⟩
      ·obtain rfl:k = Qi.length:=by omega
       have htrs:=TrsRowU.p HRt.out (by omega)
       rw [HQt.out,show (Qi.map Prod.fst).take Qi.length = Qi.map Prod.fst from List.take_of_length_le (by simp)] at htrs
       have hz5w:w5.heap.size ≤ wr.heap.size:=HBz.out.size
       have HTr:=Hd htrs
       have z54:=z5 4
       clear htrs hlk z5
       go_upto_region 16 with fail
       have hv1:∀ b,(Value.slice a1 i c1).ownBlock = some b → b < wo.heap.size:=fun b e=>(HRow.out.1.lt b e).2
       obtain ⟨n1,n2,n3⟩:=gl_set (v1:=.slice a1 i c1) (B:=wG.heap.size) HHd.out.1 HHd.out.2 hx5 (HB5.out.trans (HBz.out.mono HB5.out.size)) hz5 hz5w HTr.out hv1 HG.out.size
       have HE1:=Hd n1
       have HE2:=Hd n2
       have HE3:=Hd n3
       clear g0 g1 g2 g3 g4 z54 hx5 n1 n2 n3 hv1
       generalize wr.setCell ⟨wo.heap.size,4,none⟩ (.slice a7 Qi.length c7) = w7 at *
       obtain ⟨⟨g0,g1,g2,g3,g4⟩,_⟩:=five_block HE1.out
       have HXr7:=Hd ((HE2.out.block _ hr3r).trans HXr.out)
       obtain ⟨⟨_,x31,_⟩,z3⟩:=three_block HXr7.out
       have HRw7:=Hd (show w7.ownsRow wG.heap.size 118 5 (.slice a1 i c1) i (Qn.flatMap glUCells) by have:=(HRow.out.1.belowed HE2.out);rw [hqn] at this;exact this)
       have HOne:=Hd (glU_oneU (⟨ga,⟨gn,gt,gv⟩,Qi.map Prod.fst⟩,.slice a7 Qi.length c7) ⟨_,_,_,rfl⟩)
       have hz7:wG.heap.size ≤ w7.heap.size:=Nat.le_trans HG.out.size HE2.out.size
       have HZ7:=Hd hz7
       have z31:=z3 1
       clear z3 hz7
       go_wp2_with (at_builtin;go_loud (refine wpList_append_lies _ rfl _ _ _ rfl wG.heap.size 118 i4 _ 5 72 Tryz.underlying62 HI4.out.1 HI4.out.2.1 HI4.out.2.2.1 HI4.out.2.2.2 rfl (by decide) (.slice a1 i c1) i (Qn.flatMap glUCells) rfl (HRw7.out.belowed (ba1 _ _)) ⟨_,0,none⟩ 1 1 (glUCells (⟨ga,⟨gn,gt,gv⟩,Qi.map Prod.fst⟩,.slice a7 Qi.length c7)) rfl rfl (World.news_of_block (cs:=#[.int .i64 ga,.string gn,.string gt,.bool gv,.slice a7 Qi.length c7]) (heap_alloc_new _ _)) HOne.out (by decide) HNums.out.1 HNums.out.2 (Nat.le_trans HZ7.out (ba1 _ _).size) _ rfl ?_))
       intro g cp w11 hown hgr hat _
       obtain ⟨⟨k0,k1⟩,n1,n2,n3⟩:=rowU_box (j:=1) glP_keepU hr3g (HRow.out.kept glP_keepU (grn_blwU none HE2.out) (fun r e=>by cases e)) HE3.out hqn HXr7.out rfl (HG.out.trans (grn_blwU (some r3) HE2.out)) hown hgr (by rcases hat with h | h;exact .inl h;exact .inr (by simpa using h))
       have HF1:=Hd n1
       have HF2:=Hd n2
       have HF3:=Hd n3
       clear hown hgr hat n1 n2 n3 g0 g1 g2 g3 g4
       go_wp2_with fail
       go_roundg (u.globals.length - (i + 1))
       case measure=>omega
       case rel=>exact ⟨i + 1,Qn ++ [(⟨ga,⟨gn,gt,gv⟩,Qi.map Prod.fst⟩,.slice a7 Qi.length c7)],_,by omega,by omega,by rw [Int.natCast_add];rfl,by rw [List.length_append,hqn];rfl,Hd (by rw [List.map_append,HQn.out,HTk.out];rfl),HF1,⟨_,_,rfl⟩,HF2,HF3⟩
    ·obtain rfl:i = u.globals.length:=by omega
     obtain ⟨wF,hwF⟩:∃ y,y = wo:=⟨_,rfl⟩
     subst hwF
     have hgls:=GlsRowU.p HRow.out (by omega)
     rw [HQn.out,List.take_length] at hgls
     have HGls:=Hd hgls
     have HSts2:=Hd (HSts.out.keep (P':=fun b=>w3.heap.size ≤ b ∧ b < wG.heap.size) (fun b h=>⟨HG.out.block b h.2 (fun e=>by have:=Option.some.inj e;have:=h.1;omega),h⟩))
     have HGF:=Hd (HGG.out.trans HG.out)
     have hr3F:r3 < wF.heap.size:=lt_of_heap HXr.out
     have hzGF:wG.heap.size ≤ wF.heap.size:=HG.out.size
     clear hgls hlt X0 X1 XB d0 d2
     go_upto_region 18 with fail
     clear d1
     go_loopg [9] u.funcs.length (fun m v9 wy=>∃ (i:Nat) (Qf:List (FnU × Value × Value)) (v2:Value),i ≤ u.funcs.length ∧ i + m = u.funcs.length ∧ v9 = .int .i64 (i:Int) ∧ Qf.length = i ∧ Hid (Qf.map Prod.fst = u.funcs.take i) ∧ Hid (FnsC wF.heap.size wy v2 Qf) ∧ (∃ a c,v2 = .slice a i c) ∧
      Hid (wy.heap[r3]? = some (.cells #[.slice a0 u.structs.length c0,.slice a1 u.globals.length c1,v2] 65 (0,0))) ∧ Hid (wF.grownBy wy (some r3)))
     case atStart=>exact ⟨0,[],_,by omega,by omega,rfl,rfl,Hd rfl,Hd (fnsC_nil _ _),⟨_,_,rfl⟩,HXr,Hd (World.grownBy.refl _ _)⟩
     case round=>
      obtain ⟨i,Qf,v2,hi,hig,rfl,hqn,HQf,HFr,⟨a2,c2,hv2⟩,HXr,HG⟩:=hrel
      subst hv2
      obtain ⟨wo,hwo⟩:∃ y,y = wr:=⟨_,rfl⟩
      subst hwo
      obtain ⟨X0,X1,XB⟩:=HXx.out _ (HGF.out.trans HG.out)
      have HXB:=Hd XB
      have HX1o:=Hd X1
      obtain ⟨⟨d0,d1,d2⟩,_⟩:=three_block X0
      by_cases hlt:i < u.funcs.length
      ·obtain ⟨bb,off,cap',vp,vb,he,hbl,hfn,e0,e1,e2,e3,e4⟩:=HFl.out i hlt
       obtain ⟨rfl,rfl⟩:af = some ⟨bb,off,none⟩ ∧ cf = cap':=by simpa using he
       rw [← XB.cell hbl] at e0 e1 e2 e3 e4
       have HTk:=Hd (List.take_succ_eq_append_getElem hlt)
       generalize u.funcs[i]'hlt = fi at *
       have HFn:=Hd hfn
       obtain ⟨ap,cp,rfl,hop,hsp,hvp⟩:=hfn.params
       obtain ⟨ab,cb,rfl,hob,hsb,hvb⟩:=hfn.body
       have HSp:=Hd hsp
       have HSb:=Hd hsb
       have hpz:=hop.1
       have hpn:=hop.2.2.2
       have hbz:=hob.1
       have HBn:=Hd hob.2.2.2
       have hr3r:r3 < wo.heap.size:=lt_of_heap HXr.out
       have hil:(i:Int) < (u.funcs.length:Int):=by omega
       have hx5:=heap_alloc_new wo (.cells #[.int .i64 fi.at_,.string fi.name,.string fi.type,.slice ap fi.params.length cp,.slice ab fi.body.length cb] 77)
       have hb5:=ba1 wo (.cells #[.int .i64 fi.at_,.string fi.name,.string fi.type,.slice ap fi.params.length cp,.slice ab fi.body.length cb] 77)
       have hz5:=Nat.le_of_eq (show wo.heap.size + 1 = (wo.alloc (.cells #[.int .i64 fi.at_,.string fi.name,.string fi.type,.slice ap fi.params.length cp,.slice ab fi.body.length cb] 77)).heap.size by simp)
       have HNums:=Hd (show i + 1 ≤ maxLen ∧ (i + 1) * 88 ≤ 140737488355328 from ⟨by unfold maxLen;omega,by omega⟩)
       clear hsp hsb hop hob hvp hvb hfn he X0 X1 XB d0 d1
       go_upto_region 21 with fail
       generalize wo.alloc (.cells #[.int .i64 fi.at_,.string fi.name,.string fi.type,.slice ap fi.params.length cp,.slice ab fi.body.length cb] 77) = w5 at *
       have HX5:=Hd hx5
       have HB5:=Hd hb5
       have HBw5:=Ht HXB hb5
       obtain ⟨⟨g0,g1,g2,g3,g4⟩,z5⟩:=five_block hx5
       have z53:=z5 3
       have hw5:wo.heap.size < w5.heap.size:=lt_of_heap hx5
       have HLv:=Hd (flat_len vr_len fi.params)
       clear hx5 hb5 e0 e1 e2 e3 e4 z5 d2
       go_cut [91] (fun s91 wx=>∃ a8 c8,s91 = .slice a8 fi.params.length c8 ∧ Hid (wx.heap[wo.heap.size]? = some (.cells #[.int .i64 fi.at_,.string fi.name,.string fi.type,.slice a8 fi.params.length c8,.slice ab fi.body.length cb] 77 (0,0))) ∧ Hid (wx.ownsRow w5.heap.size 116 3 (.slice a8 fi.params.length c8) fi.params.length (fi.params.flatMap vrCells)) ∧ Hid (Below wo.heap.size wo wx))
       case first=>
        cases ap with
        | none=>
          obtain ⟨hf0,rfl⟩:=hpn rfl
          have hp0:fi.params = []:=List.eq_nil_of_length_eq_zero hf0
          have hown:(w5.alloc (.cells #[] 116)).ownsRow w5.heap.size 116 3 (.slice (some ⟨w5.heap.size,0,none⟩) 0 0) 0 []:=own_nil (heap_alloc_new _ _) (Nat.le_refl _)
          obtain ⟨q1,q2,q3,q4,q5⟩:=par_set (v8:=.slice (some ⟨w5.heap.size,0,none⟩) 0 0) HX5.out HB5.out hw5 (ba1 w5 (.cells #[] 116)) (by rw [hp0];exact hown)
          have hcm:(w5.alloc (.cells #[] 116)).setCell ⟨wo.heap.size,3,none⟩ (.slice (some ⟨w5.heap.size,0,none⟩) 0 0) = (w5.setCell ⟨wo.heap.size,3,none⟩ (.slice (some ⟨w5.heap.size,0,none⟩) 0 0)).alloc (.cells #[] 116):=World.setCell_alloc_past _ _ _ _ hw5
          rw [hcm] at q1 q2 q3
          have HE1:=Hd q1
          have HE2:=Hd q2
          have HE3:=Hd q3
          have HOn:=Hd hown
          have HNl:=Hd (show Value.slice none fi.params.length 0 = .slice none 0 0 by rw [hf0])
          have HF0:=Hd hf0
          clear hcm hf0 hp0 q1 q2 q3 hown hpn
          go_wp2_with (at_builtin;go_loud (refine wpList_append_own_none rfl _ _ _ rfl w5.heap.size 116 i6 3 Tryz.underlying75 HI6.out.1 _ 0 [] rfl HOn.out HNl.out ?_))
          go_meet
          case rel=>exact ⟨some ⟨w5.heap.size,0,none⟩,0,by rw [HF0.out],by rw [HF0.out];exact HE1,(by have h:=HE2.out;rw [HF0.out] at h ⊢;exact Hd h),HE3⟩
        | some ad=>
          have hown:(w5.alloc (.cells #[] 116)).ownsRow w5.heap.size 116 3 (.slice (some ⟨w5.heap.size,0,none⟩) 0 0) 0 []:=own_nil (heap_alloc_new _ _) (Nat.le_refl _)
          have HOn:=Hd hown
          have HNw:=Hd (sl_news vr_len (((HSp.out.below HBw5.out (Nat.le_refl _)).mono HBw5.out.size).below (ba1 w5 (.cells #[] 116)) (Nat.le_refl _)))
          have c3:(w5.alloc (.cells #[] 116)).cell? ⟨wo.heap.size,3,none⟩ = some (.slice (some ad) fi.params.length cp):=by rw [(ba1 w5 _).cell hw5];exact g3
          have HPz:=Hd hpz
          clear hown hpn
          go_wp2_with (at_builtin;go_loud (refine wpList_append_own _ rfl _ _ _ rfl w5.heap.size 116 i6 _ 3 40 Tryz.underlying75 HI6.out.1 HI6.out.2.1 HI6.out.2.2.1 HI6.out.2.2.2 rfl (by decide) _ 0 [] rfl HOn.out ad fi.params.length cp (fi.params.flatMap vrCells) rfl HLv.out HNw.out (vr_one _) (by have:=HPz.out;unfold maxLen;omega) (by have:=HPz.out;omega) (ba1 _ _).size ?_))
          intro v8 W hown2 hgr _
          have hown3:W.ownsRow w5.heap.size 116 3 v8 fi.params.length (fi.params.flatMap vrCells):=by simpa using hown2
          have hbW:Below w5.heap.size w5 W:=(ba1 _ _).grown hgr (ba1 _ _).size (fun k e=>by cases e;exact Nat.le_refl _)
          obtain ⟨q1,q2,q3,q4,q5⟩:=par_set (v8:=v8) HX5.out HB5.out hw5 hbW hown3
          obtain ⟨a8,c8,rfl⟩:=own_slice hown3
          have HE1:=Hd q1
          have HE2:=Hd q2
          have HE3:=Hd q3
          clear hown2 hown3 hgr q1 q2 q3 hbW c3
          go_wp2_with fail
          go_meet
          case rel=>exact ⟨a8,c8,rfl,HE1,HE2,HE3⟩
       case rest=>
        obtain ⟨a8,c8,rfl,HX8,HO8,HB8⟩:=hcut
        obtain ⟨⟨f0,f1,f2,f3,f4⟩,z8⟩:=five_block HX8.out
        have z84:=z8 4
        have hww:w.heap.size ≤ wo.heap.size:=HXB.out.size
        have HCt:=Hd (copyTree_ok ab cb fi.body wc ((HSb.out.below (HXB.out.trans (HB8.out.mono HXB.out.size)) (Nat.le_refl _)).mono (Nat.le_trans hww HB8.out.size)) hbz (fun e=>⟨List.eq_nil_of_length_eq_zero (HBn.out e).1,(HBn.out e).2⟩))
        clear g0 g1 g2 g3 g4 z53 z8 f0 f1 f2 f3
        go_upto_region 23 with (go_at_call 9;(with_reducible refine HCt.out.mono ?_);rintro e w9 ⟨⟨v9,rfl,hown9⟩,hb9⟩;obtain ⟨a9,c9,rfl⟩:=own_slice hown9;obtain ⟨n1,n2,n3,n4,k4,k5⟩:=fn_new (wF:=wF) HFn.out HO8.out HB8.out HX8.out hw5 hb9 hown9 HG.out.size;have HE1:=Hd n1;have HE2:=Hd n2;have HE3:=Hd n3;have HE4:=Hd n4;clear n1 n2 n3 n4 hown9 hb9)
        clear f4 z84 k4 k5
        generalize World.setCell _ _ _ = wz at *
        obtain ⟨⟨f0,f1,f2,f3,f4⟩,_⟩:=five_block HE1.out
        have HXz:=Hd ((HE2.out.block _ hr3r).trans HXr.out)
        obtain ⟨⟨_,_,x32⟩,z3⟩:=three_block HXz.out
        have z32:=z3 2
        have HRz:=Hd (show wz.ownsRow wF.heap.size 77 5 (.slice a2 i c2) i (Qf.flatMap fnUCells) by have:=(HFr.out.1.belowed HE2.out);rw [hqn] at this;exact this)
        have HOne:=Hd (fnU_oneU (fi,.slice a8 fi.params.length c8,.slice a9 fi.body.length c9) ⟨_,_,_,rfl⟩ ⟨_,_,_,rfl⟩)
        have HZz:=Hd (Nat.le_trans HG.out.size HE2.out.size)
        clear z3
        go_wp2_with (at_builtin;go_loud (refine wpList_append_lies _ rfl _ _ _ rfl wF.heap.size 77 i5 _ 5 88 Tryz.underlying63 HI5.out.1 HI5.out.2.1 HI5.out.2.2.1 HI5.out.2.2.2 rfl (by decide) (.slice a2 i c2) i (Qf.flatMap fnUCells) rfl (HRz.out.belowed (ba1 _ _)) ⟨_,0,none⟩ 1 1 (fnUCells (fi,.slice a8 fi.params.length c8,.slice a9 fi.body.length c9)) rfl rfl (World.news_of_block (cs:=#[.int .i64 fi.at_,.string fi.name,.string fi.type,.slice a8 fi.params.length c8,.slice a9 fi.body.length c9]) (heap_alloc_new _ _)) HOne.out (by decide) HNums.out.1 HNums.out.2 (Nat.le_trans HZz.out (ba1 _ _).size) _ rfl ?_))
        intro g cp w11 hown hgr hat _
        obtain ⟨⟨k0,k1⟩,n1,n2,n3⟩:=fnsC_box (j:=2) hr3F (HFr.out.kept (grn_blwU none HE2.out) (fun r e=>by cases e)) HE3.out (fun k hk e=>by have:=(HFr.out.1.lt k e).2;have:=HE4.out k hk;omega) (fun x hx k hk hk'=>by have:=((HFr.out.2.1 x hx).1.lt hk).2;have:=HE4.out k hk';omega) hqn HXz.out rfl (HG.out.trans (grn_blwU (some r3) HE2.out)) hown hgr (by rcases hat with h | h;exact .inl h;exact .inr (by simpa using h))
        have HF1:=Hd n1
        have HF2:=Hd n2
        have HF3:=Hd n3
        clear hown hgr hat n1 n2 n3 f0 f1 f2 f3 f4
        go_wp2_with fail
        go_roundg (u.funcs.length - (i + 1))
        case measure=>omega
        case rel=>exact ⟨i + 1,Qf ++ [(fi,.slice a8 fi.params.length c8,.slice a9 fi.body.length c9)],_,by omega,by omega,by rw [Int.natCast_add];rfl,by rw [List.length_append,hqn];rfl,Hd (by rw [List.map_append,HQf.out,HTk.out];rfl),HF1,⟨_,_,rfl⟩,HF2,HF3⟩
      ·obtain rfl:i = u.funcs.length:=by omega
       obtain ⟨⟨k0,k1,k2⟩,_⟩:=three_block HXr.out
       obtain ⟨_,zz⟩:=three_block HX1o.out
       have zz0:=zz 0
       have zz1:=zz 1
       have zz2:=zz 2
       clear zz hlt X0 X1 XB d0 d1
       have HCb:=Hd HXB.out
       go_wp2_with fail
       have hfin:=unC_end HCb.out HX1o.out (show w.heap.size + 2 ≤ w3.heap.size by omega) hr3' HSts2.out HGls.out hz3g hzGF HG.out HFr.out (by rw [HQf.out,List.take_length]) hlf
       obtain ⟨hx,hun,hbw⟩:=hfin
       generalize World.setCell _ _ _ = W at *
       refine bodyPost_ret (v:=.agg #[.slice a0 u.structs.length c0,.slice a1 u.globals.length c1,.slice a2 u.funcs.length c2]) (by simp [results,Tryz.results31,go_sem,World.cell?,hx]) rfl ?_
       exact ⟨⟨_,_,_,_,_,rfl,hun⟩,hbw⟩
end Go.Proofs.YtkokdafkjjcgoaaGreatDoor
