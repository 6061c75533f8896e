/- Places change neither whether a tree is right nor how it is  -/
import Derived.Test.YtkokdafkjjcgoaaGreatDoorCopyU
import Derived.Test.YtkokdafkjjcgoaaGreatDoorMg38
namespace Go.Proofs.YtkokdafkjjcgoaaGreatDoor
open Go.RowKit
theorem treePrint_ok (u:UnU) (vs vg vf:Value) (w:World) (hE:EnvP w) (hU:IsUn w.heap.size w u vs vg vf):Calls Tryz.prog 32 #[.agg #[vs,vg,vf]] w (PrintUEnd u w):=
 treePrint_of u vs vg vf w hE hU fun w1 hb=>checkUnit_ok u vs vg vf w1 (hE.below hb).tp.te (hU.go hb)
theorem PlOk.next {d:Int} {t:List Nd} {j:Nat} {y:Nd} (h:PlOk d (t.take j)) (hy:t[j]? = some y) (h1:0 ≤ y.at_) (h2:y.at_ + d ≤ 65536):PlOk d (t.take (j + 1)):=by
 intro z hz
 rw [List.take_add_one,hy] at hz
 rcases List.mem_append.1 hz with hz | hz
 ·exact h z hz
 ·rw [show z = y by simpa using hz]
  exact ⟨h1,h2⟩
set_option maxRecDepth 100000 in
set_option maxHeartbeats 16000000 in
theorem treePlaces_ok (u:UnU) (vs vg vf:Value) (n:Int) (w:World) (hE:EnvP w) (hU:IsUn w.heap.size w u vs vg vf) (_hn:i64In n) :
 Calls Tryz.prog 8 #[.agg #[vs,vg,vf],.int .i64 n] w fun e w'=>e = .returned (.bool true) ∧ Below w.heap.size w w':=by
 obtain ⟨sa,sc,mv,rfl,_⟩:=hU.structs
 obtain ⟨ag,cg,rfl,_⟩:=glsU_len hU.globals
 obtain ⟨af,cf,rfl,_⟩:=fnsU_len hU.funcs
 obtain ⟨d,hd,hde⟩:=at_is n (show 0 < 100 by decide) (by decide)
 have HDe:=Hd (show wrap64 ((IntKind.u64.wrap n).tmod 100) = (d:Int) from hde)
 have hb1:=ba1 w (.cells #[.slice sa u.structs.length sc,.slice ag u.globals.length cg,.slice af u.funcs.length cf] 65)
 have hxq:=heap_alloc_new w (.cells #[.slice sa u.structs.length sc,.slice ag u.globals.length cg,.slice af u.funcs.length cf] 65)
 clear hde
 go_enter Tryz.func8,Tryz.ntmps8
 go_upto_region 1 with fail
 generalize w.alloc (.cells #[.slice sa u.structs.length sc,.slice ag u.globals.length cg,.slice af u.funcs.length cf] 65) = w1 at *
 have HQ:=Hd (fun w' (h:Below w1.heap.size w1 w')=>(three_block ((h.block _ (lt_of_heap hxq)).trans hxq)).1)
 have HB1:=Hd hb1
 have HWk:=Hd (works9_ok w1 (hE.below hb1))
 have HEw:=Hd (fun w' (h:Below w1.heap.size w1 w')=>hE.below (hb1.trans (h.mono hb1.size)))
 have HUw:=Hd (fun w' (h:Below w1.heap.size w1 w')=>hU.go (hb1.trans (h.mono hb1.size)))
 clear hxq hb1 hE hU
 go_upto_region 4 with (go_at_call 29;(with_reducible refine HWk.out.mono ?_);rintro e w2 ⟨rfl,hb2⟩;have HB2:=Hd hb2;obtain ⟨q0,q1,q2⟩:=HQ.out w2 hb2;clear hb2)
 rw [HDe.out]
 have hdd:(d:Int) < 100:=by omega
 have hd0:(0:Int) ≤ (d:Int):=by omega
 have HCo:=Hd (copyUnit_ok u _ _ _ w2 (HUw.out _ HB2.out))
 unfold CopyUEnd at HCo
 clear HDe HWk
 go_upto_region 5 with (go_at_call 31;(with_reducible refine HCo.out.mono ?_);rintro e w6 ⟨⟨vs',vg',vf',M,Q,rfl,hun⟩,hb6⟩;obtain ⟨sa',sc',_,rfl,_⟩:=hun.is.structs;obtain ⟨ag',cg',rfl,_⟩:=glsU_len hun.is.globals;obtain ⟨af',cf',rfl,hl8⟩:=fnsU_len hun.is.funcs;have HUn:=Hd hun;have HB6:=Hd hb6;clear hun hb6)
 clear q0 q1 q2
 have hx7:=heap_alloc_new w6 (.cells #[.slice sa' u.structs.length sc',.slice ag' u.globals.length cg',.slice af' u.funcs.length cf'] 65)
 have hb7:=ba1 w6 (.cells #[.slice sa' u.structs.length sc',.slice ag' u.globals.length cg',.slice af' u.funcs.length cf'] 65)
 generalize w6.alloc (.cells #[.slice sa' u.structs.length sc',.slice ag' u.globals.length cg',.slice af' u.funcs.length cf'] 65) = w7 at *
 have HX7:=Hd hx7
 have HUn7:=Hd (HUn.out.below hb7)
 have HB7:=Ht HB6 hb7
 have HLt:=Hd (show ∀ q ∈ Q,∀ c,BlkU q c → c < w6.heap.size from fun q hq c hc=>((HUn.out.funcs.2.1 q hq).1.lt hc).2)
 have hw26:w2.heap.size ≤ w6.heap.size:=HB6.out.size
 clear hx7 hb7
 obtain ⟨g,hg⟩:∃ g,g = mvF d:=⟨_,rfl⟩
 have HG:=Hd hg
 clear hg
 go_wp2_with fail
 go_loopg [6] u.funcs.length (fun m v6 wy=>∃ (k:Nat) (Q:List (FnU × Value × Value)),k ≤ u.funcs.length ∧ k + m = u.funcs.length ∧ v6 = .int .i64 (k:Int) ∧ Hid (UnC w2.heap.size wy ⟨u.structs,u.globals,midF g u.funcs k⟩ (.slice sa' u.structs.length sc') (.slice ag' u.globals.length cg') (.slice af' u.funcs.length cf') M Q) ∧ Hid (Below w2.heap.size w2 wy) ∧
  Hid (wy.heap[w6.heap.size]? = some (.cells #[.slice sa' u.structs.length sc',.slice ag' u.globals.length cg',.slice af' u.funcs.length cf'] 65 (0,0))) ∧ Hid (∀ q ∈ Q,∀ c,BlkU q c → c < w6.heap.size) ∧ Hid (∀ x ∈ u.funcs.take k,PlOk d x.body))
 case atStart=>exact ⟨0,Q,by omega,by omega,rfl,Hd (by rw [midF_0];exact HUn7.out),HB7,HX7,HLt,Hd (fun x hx=>by simp at hx)⟩
 case round=>
  obtain ⟨k,Q,hk,hkm,rfl,HUk,HBk,HXk,HLk,HCk⟩:=hrel
  obtain ⟨wo,hwo⟩:∃ y,y = wr:=⟨_,rfl⟩
  subst hwo
  obtain ⟨⟨x0,x1,x2⟩,_⟩:=three_block HXk.out
  by_cases hlt:k < u.funcs.length
  ·have hQl:Q.length = u.funcs.length:=by have:=congrArg List.length HUk.out.fns;rw [List.length_map,midF_len] at this;exact this
   have hQk:k < Q.length:=by omega
   obtain ⟨gf,cpf,hgs,_,hgl,_,_,hcs,_⟩:=own_rowAt fnU_len HUk.out.funcs.1 rfl hQk
   obtain ⟨rfl,hqq,rfl⟩:af' = some ⟨gf,0,none⟩ ∧ u.funcs.length = Q.length ∧ cf' = cpf:=by simpa using hgs
   clear hqq
   have hLk:=List.getElem?_eq_getElem hlt
   have hq1:Q[k].1 = u.funcs[k]:=by
    have h1:=congrArg (fun l=>l[k]?) HUk.out.fns
    simp only [List.getElem?_map,List.getElem?_eq_getElem hQk,Option.map_some] at h1
    rw [midF_at,hLk,Option.map_some,if_neg (Nat.lt_irrefl k)] at h1
    exact Option.some.inj h1
   have hQe:=List.getElem?_eq_getElem hQk
   have hfc:=(HUk.out.funcs.2.1 Q[k] (List.getElem_mem hQk)).1
   rcases hqe:Q[k] with ⟨x,vp,vb⟩
   rw [hqe] at hq1 hQe hfc hcs
   simp only at hq1
   rw [← hq1] at hLk
   have hxu:x = u.funcs[k]:=hq1
   obtain ⟨abx,cbx,hvb⟩:=own_slice hfc.body
   simp only at hvb
   subst hvb
   have HLx:=Hd hLk
   have HXu:=Hd hxu
   have HQe:=Hd hQe
   have hbl:=hfc.blen
   simp only at hbl
   have hNl:(u.funcs.length:Int) ≤ 140737488351232:=by omega
   have hkl:(k:Int) < (u.funcs.length:Int):=by omega
   have HSt:=Hd (show (midF g u.funcs k).set k ⟨x.at_,x.name,x.type,x.params,midT (mvT d x.body) x.body 0⟩ = midF g u.funcs k from by
    have e:midT (mvT d x.body) x.body 0 = x.body:=by simp [midT]
    rw [e]
    refine List.ext_getElem? fun j=>?_
    by_cases e:k = j
    ·subst e
     rw [List.getElem?_set_self (by rw [midF_len];exact hlt),midF_at,hLk]
     simp
    ·rw [List.getElem?_set_ne e])
   have HQ8:=Hd (show Q[k]? = some (⟨x.at_,x.name,x.type,x.params,midT (mvT d x.body) x.body 0⟩,vp,.slice abx x.body.length cbx) by
    have e:midT (mvT d x.body) x.body 0 = x.body:=by simp [midT]
    rw [e]
    exact hQe)
   have HRl:=Hd (mvT_len d x.body)
   have HEnd:=Hd (show (midF g u.funcs k).set k (mvF d x) = midF g u.funcs (k + 1) by rw [← midF_next g hLk,HG.out])
   clear hgs hcs hQl hQk hq1 hqe hLk hfc hQe hxu
   go_wp2_with fail
   go_loopg [7] x.body.length (fun m v7 wy=>∃ (j:Nat) (Qx:List (FnU × Value × Value)),j ≤ x.body.length ∧ j + m = x.body.length ∧ v7 = .int .i64 (j:Int) ∧ Hid (UnC w2.heap.size wy ⟨u.structs,u.globals,(midF g u.funcs k).set k ⟨x.at_,x.name,x.type,x.params,midT (mvT d x.body) x.body j⟩⟩ (.slice sa' u.structs.length sc') (.slice ag' u.globals.length cg') (.slice (some ⟨gf,0,none⟩) u.funcs.length cf') M Qx) ∧ Hid (Below w2.heap.size w2 wy) ∧
    Hid (wy.heap[w6.heap.size]? = some (.cells #[.slice sa' u.structs.length sc',.slice ag' u.globals.length cg',.slice (some ⟨gf,0,none⟩) u.funcs.length cf'] 65 (0,0))) ∧ Hid (∀ q ∈ Qx,∀ c,BlkU q c → c < w6.heap.size) ∧ Hid (Qx[k]? = some (⟨x.at_,x.name,x.type,x.params,midT (mvT d x.body) x.body j⟩,vp,.slice abx x.body.length cbx)) ∧ Hid (PlOk d (x.body.take j)))
   case atStart=>exact ⟨0,Q,by omega,by omega,rfl,Hd (by rw [HSt.out];exact HUk.out),HBk,HXk,HLk,HQ8,Hd (fun y hy=>by simp at hy)⟩
   case round=>
    obtain ⟨j,Qx,hj,hjm,rfl,HUx,HBx,HXx,HLx2,HQx,HPx⟩:=hrel
    obtain ⟨⟨x0,x1,x2⟩,_⟩:=three_block HXx.out
    obtain ⟨hkx,hqx⟩:=List.getElem?_eq_some_iff.1 HQx.out
    obtain ⟨g9,c9,hgs,_,_,_,_,hcs,_⟩:=own_rowAt fnU_len HUx.out.funcs.1 rfl hkx
    obtain ⟨rfl,hqq,rfl⟩:gf = g9 ∧ u.funcs.length = Qx.length ∧ cf' = c9:=by simpa using hgs
    rw [hqx] at hcs
    have m4:=hcs 4 _ rfl
    have hml:=midT_len HRl.out j
    simp only at m4
    clear hgs hcs hqq
    by_cases hjl:j < x.body.length
    ·have hjl2:(j:Int) < (x.body.length:Int):=by omega
     have hfx:=(HUx.out.funcs.2.1 _ (List.mem_of_getElem? HQx.out)).1
     have hjl':j < (midT (mvT d x.body) x.body j).length:=by rw [hml];exact hjl
     obtain ⟨gb,cbb,hps,_,hpg,_,_,hpc,hpf⟩:=own_rowAt nd_len hfx.body rfl hjl'
     simp only [hml] at hps
     obtain ⟨rfl,rfl⟩:abx = some ⟨gb,0,none⟩ ∧ cbx = cbb:=by simpa using hps
     have hTo:=List.getElem?_eq_getElem hjl
     have hmj:(midT (mvT d x.body) x.body j)[j]? = some x.body[j]:=by rw [midT_at HRl.out,if_neg (Nat.lt_irrefl j)];exact hTo
     have hmj2:(midT (mvT d x.body) x.body j)[j] = x.body[j]:=by rw [List.getElem?_eq_getElem hjl'] at hmj;exact Option.some.inj hmj
     have hTj:(mvT d x.body)[j]? = some (mvN d x.body[j]):=by
      unfold mvT
      rw [List.getElem?_map,hTo,Option.map_some]
     have hyk:=hfx.bok _ (List.mem_of_getElem? hmj)
     have p2:=hpc 2 (.int .i64 x.body[j].at_) (by simp only [hmj2];rfl)
     have z2:=hpf (j * 6 + 2)
     have HTo:=Hd hTo
     have HHs:=Hd (And.intro hmj (And.intro hTj hyk))
     generalize x.body[j] = y at *
     obtain ⟨yk,yn,ya,yi,ys,yt⟩:=y
     simp only at p2
     clear hps hpc hpf hjl' hmj hmj2 hTj hyk hTo hqx hml
     have hcs3:ya < 0 ∨ (¬ ya < 0 ∧ 65436 < ya) ∨ (¬ ya < 0 ∧ ¬ 65436 < ya):=by omega
     rcases hcs3 with c1 | ⟨c1,c2⟩ | ⟨c1,c2⟩
     ·have d1:decide (ya < 0) = true:=decide_eq_true c1
      go_wp2_with fail
      go_ret
      exact ⟨rfl,HB1.out.trans ((HB2.out.trans (HBx.out.mono HB2.out.size)).mono HB1.out.size)⟩
     ·have d1:decide (ya < 0) = false:=decide_eq_false c1
      have d2:decide (65436 < ya) = true:=decide_eq_true c2
      go_wp2_with fail
      go_ret
      exact ⟨rfl,HB1.out.trans ((HB2.out.trans (HBx.out.mono HB2.out.size)).mono HB1.out.size)⟩
     ·have d1:decide (ya < 0) = false:=decide_eq_false c1
      have d2:decide (65436 < ya) = false:=decide_eq_false c2
      have hwr:wrap64 (ya + (d:Int)) = ya + (d:Int):=by unfold wrap64;omega
      have hfp:=hfx.nd (x':=mvN d ⟨yk,yn,ya,yi,ys,yt⟩) (u:=.int .i64 (ya + (d:Int))) 2 HHs.out.1 (by decide) rfl (by
       have h:=HHs.out.2.2
       exact ⟨h.1,h.2.1,⟨by show -9223372036854775808 ≤ ya + (d:Int);omega,by show ya + (d:Int) ≤ 9223372036854775807;omega⟩,h.2.2.2⟩)
      have hset:(midT (mvT d x.body) x.body j).set j (mvN d ⟨yk,yn,ya,yi,ys,yt⟩) = midT (mvT d x.body) x.body (j + 1):=midT_next HRl.out HHs.out.2.1
      simp only [hset] at hfp
      have hup:=HUx.out.putB (f':=⟨x.at_,x.name,x.type,x.params,midT (mvT d x.body) x.body (j + 1)⟩) HQx.out rfl rfl rfl (grn_setU wr gb (j * 6 + 2) (.int .i64 (ya + (d:Int)))) (.inr rfl) hfp
      have hgbl:=HLx2.out _ (List.mem_of_getElem? HQx.out) gb (.inr rfl)
      have hMg:=(hfx.body.lt gb rfl).1
      have hlow:=HUx.out.low.1
      have HUn9:=Hd hup
      have HBn9:=Hd (HBx.out.setCell (p:=⟨gb,j * 6 + 2,none⟩) (Nat.le_trans hlow hMg) (.int .i64 (ya + (d:Int))))
      have HXn9:=Hd ((Below.heap_setCell wr ⟨gb,j * 6 + 2,none⟩ (.int .i64 (ya + (d:Int))) w6.heap.size (show w6.heap.size ≠ gb by omega)).trans HXx.out)
      have HLn9:=Hd (show ∀ q ∈ Qx.set k (⟨x.at_,x.name,x.type,x.params,midT (mvT d x.body) x.body (j + 1)⟩,vp,.slice (some ⟨gb,0,none⟩) x.body.length cbx),∀ c,BlkU q c → c < w6.heap.size from fun q hq c hc=>by
       rcases List.mem_or_eq_of_mem_set hq with hq | rfl
       ·exact HLx2.out q hq c hc
       ·exact HLx2.out _ (List.mem_of_getElem? HQx.out) c hc)
      have HQn9:=Hd (show (Qx.set k (⟨x.at_,x.name,x.type,x.params,midT (mvT d x.body) x.body (j + 1)⟩,vp,.slice (some ⟨gb,0,none⟩) x.body.length cbx))[k]? = some (⟨x.at_,x.name,x.type,x.params,midT (mvT d x.body) x.body (j + 1)⟩,vp,.slice (some ⟨gb,0,none⟩) x.body.length cbx) from List.getElem?_set_self hkx)
      have HPn9:=Hd (HPx.out.next HTo.out (by show 0 ≤ ya;omega) (by show ya + (d:Int) ≤ 65536;omega))
      clear hfx hfp hset hup hgbl hMg hlow
      go_wp2_with fail
      go_roundg (x.body.length - (j + 1))
      case measure=>omega
      case rel=>exact ⟨j + 1,_,by omega,by omega,by rw [Int.natCast_add];rfl,HUn9,HBn9,HXn9,HLn9,HQn9,HPn9⟩
    ·obtain rfl:j = x.body.length:=by omega
     have hfe:(⟨x.at_,x.name,x.type,x.params,midT (mvT d x.body) x.body x.body.length⟩:FnU) = mvF d x:=by rw [midT_end HRl.out];rfl
     have hue:=HUx.out
     rw [hfe,HEnd.out] at hue
     have HUe:=Hd hue
     have hqe:=HQx.out
     rw [hfe] at hqe
     have HPe:=Hd (show ∀ y ∈ u.funcs.take (k + 1),PlOk d y.body from fun y hy=>by
      rw [List.take_add_one,HLx.out] at hy
      rcases List.mem_append.1 hy with hy | hy
      ·exact HCk.out y hy
      ·rw [show y = x by simpa using hy]
       have:=HPx.out
       rw [List.take_length] at this
       exact this)
     have hBw:=HB2.out.trans (HBx.out.mono HB2.out.size)
     obtain ⟨q0,q1,q2⟩:=HQ.out wr hBw
     obtain ⟨bb,oo,cap,vp2,vb2,hf2,hbb,hF2,_,_,_,_,n4⟩:=fnsU_at (HUw.out wr hBw).funcs hlt
     simp only [Value.slice.injEq] at hf2
     obtain ⟨rfl,hx9,rfl⟩:=hf2
     clear hx9
     rw [← HXu.out] at hF2
     obtain ⟨a2,c2,hv2,hz2,hI2,_⟩:=hF2.body
     subst hv2
     obtain ⟨a1,c1,hv1,hz1,hI1,_⟩:=(HUx.out.funcs.2.1 _ (List.mem_of_getElem? HQx.out)).1.is.body
     simp only [hml] at hv1 hz1
     obtain ⟨rfl,rfl⟩:abx = a1 ∧ cbx = c1:=by simpa using hv1
     have hwd:=(Below.refl wr.heap.size wr).drew
     have hsm:=treeSame_ok abx a2 cbx c2 (midT (mvT d x.body) x.body x.body.length) x.body wr.drew ((hI1.below hwd (Nat.le_refl _)).mono hwd.size) ((hI2.below hwd (Nat.le_refl _)).mono hwd.size) (by rw [hml];exact hbl) hbl
     rw [hml,midT_end HRl.out,same_mv] at hsm
     have HSm:=Hd hsm
     have hl0:=lt_of_heap HXx.out
     have hl1:=World.block_lt_of_cell? _ _ q2
     have hl2:=World.block_lt_of_cell? _ _ m4
     have HCl:=Hd (show ∀ w',Below wr.heap.size wr w' → w'.cell? ⟨w6.heap.size,2,none⟩ = some (.slice (some ⟨gf,0,none⟩) u.funcs.length cf') ∧ w'.cell? ⟨gf,k * 5 + 4,none⟩ = some (.slice abx x.body.length cbx) ∧ w'.cell? ⟨w.heap.size,2,none⟩ = some (.slice (some ⟨bb,oo,none⟩) u.funcs.length cf) ∧ w'.cell? ⟨bb,oo + k * 5 + 4,none⟩ = some (.slice a2 x.body.length c2) from fun w' hb=>⟨by rw [hb.cell hl0];exact x2,by rw [hb.cell hl2];exact m4,by rw [hb.cell hl1];exact q2,by rw [hb.cell (World.block_lt_of_cell? _ _ n4)];exact n4⟩)
     have hk0:(0:Int) ≤ (k:Int):=by omega
     clear hwd hsm hue hqe hfe q0 q1 x0 x1
     go_upto_region 15 with fail
     go_region_held3 (fun w'=>w'.cell? ⟨w6.heap.size,2,none⟩ = some (.slice (some ⟨gf,0,none⟩) u.funcs.length cf') ∧ w'.cell? ⟨gf,k * 5 + 4,none⟩ = some (.slice abx x.body.length cbx) ∧ w'.cell? ⟨w.heap.size,2,none⟩ = some (.slice (some ⟨bb,oo,none⟩) u.funcs.length cf) ∧ w'.cell? ⟨bb,oo + k * 5 + 4,none⟩ = some (.slice a2 x.body.length c2)) (first | (refine ⟨?_,?_,?_,?_⟩ <;> assumption) | exact HCl.out _ ((Below.refl _ _).drew) | exact HCl.out _ HB9.out)
      ((go_at_call 25;(with_reducible refine HSm.out.mono ?_);rintro e w9 ⟨rfl,hb9⟩;have HB9:=Hd (show Below wr.heap.size wr w9 from (Below.refl _ _).drew.trans hb9);obtain ⟨x2,m4,q2,n4⟩:=HCl.out _ HB9.out;clear hb9))
     go_wp2_with fail
     go_roundg (u.funcs.length - (k + 1))
     case measure=>omega
     case rel=>exact ⟨k + 1,Qx,by omega,by omega,by rw [Int.natCast_add];rfl,Hd (HUe.out.below HB9.out),Hd (HBx.out.trans (HB9.out.mono HBx.out.size)),Hd ((HB9.out.block _ hl0).trans HXx.out),HLx2,HPe⟩
  ·obtain rfl:k = u.funcs.length:=by omega
   have hpl:=HCk.out
   rw [List.take_length] at hpl
   have hue:=HUk.out
   rw [midF_end,HG.out] at hue
   have hBw:=HB2.out.trans (HBk.out.mono HB2.out.size)
   obtain ⟨q0,q1,q2⟩:=HQ.out _ hBw
   have HP1:=Hd (treePrint_ok u _ _ _ wo (HEw.out _ hBw) (HUw.out _ hBw))
   have hp2:∀ w9,Below wo.heap.size wo w9 → Calls Tryz.prog 32 _ w9 (PrintUEnd (mvU d u) w9):=fun w9 hb=>treePrint_ok (mvU d u) _ _ _ w9 (HEw.out _ (hBw.trans (hb.mono hBw.size))) (hue.is.go hb)
   unfold PrintUEnd at HP1 hp2
   rw [printUR_mv (Int.natCast_nonneg d) hpl] at hp2
   have HP2:=Hd hp2
   have HBw:=Hd hBw
   clear hp2 hue hpl hBw hlt
   generalize printUR u = p at *
   obtain ⟨ps,pf,pg⟩:=p
   simp only at HP1 HP2
   go_upto_region 18 with (go_at_call 32;(with_reducible refine HP1.out.mono ?_);rintro e w3 ⟨rfl,hb3⟩;have HB3:=Hd hb3;clear hb3)
   have hy:=heap_alloc_new w3 (.cells #[.int .i64 pf,.int .i64 pg] 68)
   have hz:=ba1 w3 (.cells #[.int .i64 pf,.int .i64 pg] 68)
   generalize w3.alloc (.cells #[.int .i64 pf,.int .i64 pg] 68) = wa at *
   have HY:=Hd hy
   have HBa:=Ht HB3 hz
   clear hy hz x0 x1 x2 q0 q1 q2
   obtain ⟨⟨x0,x1,x2⟩,_⟩:=three_block ((HBa.out.block _ (lt_of_heap HXk.out)).trans HXk.out)
   go_upto_region 19 with (go_at_call 32;(with_reducible refine (HP2.out _ HBa.out).mono ?_);rintro e w5 ⟨rfl,hb5⟩;have HB5:=Hd hb5;clear hb5)
   have hy:=heap_alloc_new w5 (.cells #[.int .i64 pf,.int .i64 pg] 68)
   have hz:=ba1 w5 (.cells #[.int .i64 pf,.int .i64 pg] 68)
   generalize w5.alloc (.cells #[.int .i64 pf,.int .i64 pg] 68) = wb at *
   have HBb:=Ht HB5 hz
   obtain ⟨⟨u0,u1⟩,_⟩:=two_block hy
   obtain ⟨⟨v0,v1⟩,_⟩:=two_block ((HBb.out.block _ (lt_of_heap HY.out)).trans HY.out)
   have heq:(ps.toList == ps.toList) = true:=by simp
   clear hy hz x0 x1 x2
   go_wp2_with fail
   go_ret
   exact ⟨rfl,HB1.out.trans ((HBw.out.trans ((HBa.out.trans (HBb.out.mono HBa.out.size)).mono HBw.out.size)).mono HB1.out.size)⟩
end Go.Proofs.YtkokdafkjjcgoaaGreatDoor
