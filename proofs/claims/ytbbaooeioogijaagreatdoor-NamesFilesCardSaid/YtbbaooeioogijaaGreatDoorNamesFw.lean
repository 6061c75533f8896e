/- The names of any file are found, or refused, as the document -/
import Derived.Test.YtbbaooeioogijaaGreatDoorMg26
import Derived.Test.YtbbaooeioogijaaGreatDoorSameUn
import Derived.Test.YtbbaooeioogijaaGreatDoorFileE
namespace Go.Proofs.YtbbaooeioogijaaGreatDoor
open Go.RowKit Go.Maps
structure BltFrom (w:World) (g i:Nat):Prop where
 rest:∀ j,i ≤ j → j < 10 → w.cell? ⟨g,j * 3,none⟩ = some (.string (builtL.getD j (⟨#[]⟩,⟨#[]⟩)).1) ∧ w.cell? ⟨g,j * 3 + 1,none⟩ = some (.string (builtL.getD j (⟨#[]⟩,⟨#[]⟩)).2) ∧ w.cell? ⟨g,j * 3 + 2,none⟩ = some (.bool false)
 free:∀ j,w.frozen? ⟨g,j,none⟩ = false
theorem bltFrom_0 {w:World} {g:Nat} (h:BltAt w g):BltFrom w g 0:=⟨fun _ _ hj=>h.cells hj,fun j=>by unfold BltAt at h;simp [World.frozen?,h]⟩
theorem BltFrom.set {w:World} {g i:Nat} (h:BltFrom w g i) (u:Value):BltFrom (w.setCell ⟨g,i * 3,none⟩ u) g (i + 1):=⟨fun j h1 h2=>by
 have hne:∀ n,n < 3 → (⟨g,i * 3,none⟩:Addr) ≠ ⟨g,j * 3 + n,none⟩:=fun n hn e=>by
  have:=congrArg Addr.off e
  simp only at this
  omega
 have h0:=hne 0 (by omega)
 rw [Nat.add_zero] at h0
 rw [World.cell?_setCell_other _ _ _ _ h0,World.cell?_setCell_other _ _ _ _ (hne 1 (by omega)),World.cell?_setCell_other _ _ _ _ (hne 2 (by omega))]
 exact h.rest j (by omega) h2,fun j=>by rw [World.frozen?_setCell];exact h.free j⟩
theorem BltFrom.below {w w':World} {g i:Nat} (h:BltFrom w g i) (hg:g < w.heap.size) (hb:Below w.heap.size w w'):BltFrom w' g i:=⟨fun j h1 h2=>by
 rw [hb.cell hg,hb.cell hg,hb.cell hg]
 exact h.rest j h1 h2,fun j=>by rw [frozen_sameU (hb.block g hg)];exact h.free j⟩
theorem BltAt.below {w w':World} {g:Nat} (h:BltAt w g) (hb:Below w.heap.size w w'):BltAt w' g:=by
 unfold BltAt at h ⊢
 rw [hb.block _ (lt_of_heap h)]
 exact h
theorem BltAt.far {w:World} {g:Nat} (h:BltAt w g) (a:Addr) (u:Value) (hne:g ≠ a.block):BltAt (w.setCell a u) g:=by
 unfold BltAt at h ⊢
 rw [Below.heap_setCell _ _ _ _ hne]
 exact h
set_option maxRecDepth 100000 in
set_option maxHeartbeats 16000000 in
theorem namesFiles_ok (u:UnU) (vs vg vf:Value) (w:World) (hE:TE w) (hU:IsUn w.heap.size w u vs vg vf) :
 Calls Tryz.prog 3 #[.agg #[vs,vg,vf]] w fun e w'=>e = .returned (.bool true) ∧ Below w.heap.size w w':=by
 obtain ⟨sa,sc,mv,rfl,_⟩:=hU.structs
 obtain ⟨ag,cg,rfl,_⟩:=glsU_len hU.globals
 obtain ⟨af,cf,rfl,_⟩:=fnsU_len hU.funcs
 have hb1:=ba1 w (.cells #[.slice sa u.structs.length sc,.slice ag u.globals.length cg,.slice af u.funcs.length cf] 26)
 have hxq:=heap_alloc_new w (.cells #[.slice sa u.structs.length sc,.slice ag u.globals.length cg,.slice af u.funcs.length cf] 26)
 go_enter Tryz.func3,Tryz.ntmps3
 go_upto_region 1 with fail
 generalize w.alloc (.cells #[.slice sa u.structs.length sc,.slice ag u.globals.length cg,.slice af u.funcs.length cf] 26) = w1 at *
 have HQ:=Hd (fun w' (h:Below w1.heap.size w1 w')=>(three_block ((h.block _ (lt_of_heap hxq)).trans hxq)).1)
 have HB1:=Hd hb1
 have HEw:=Hd (fun w' (h:Below w1.heap.size w1 w')=>hE.below (hb1.trans (h.mono hb1.size)))
 have HUw:=Hd (fun w' (h:Below w1.heap.size w1 w')=>hU.go (hb1.trans (h.mono hb1.size)))
 have HCp:=Hd (copyUnit_ok u _ _ _ w1 (hU.go hb1))
 unfold CopyUEnd at HCp
 clear hxq hb1 hE hU
 obtain ⟨q0,q1,q2⟩:=HQ.out w1 (Below.refl _ _)
 go_upto_region 2 with (go_at_call 5;(with_reducible refine HCp.out.mono ?_);rintro e w2 ⟨⟨vs2,vg2,vf2,M2,Q2,rfl,hun⟩,hb2⟩;obtain ⟨fa2,fc2,hv2,_⟩:=fnsU_len hun.is.funcs;subst hv2;obtain ⟨sa2,sc2,_,rfl,_⟩:=hun.is.structs;obtain ⟨ga2,gc2,rfl,_⟩:=glsU_len hun.is.globals;have HUn:=Hd hun.is;have HB2:=Hd hb2;clear hb2 hun)
 have hxo:=heap_alloc_new w2 (.cells #[.slice sa2 u.structs.length sc2,.slice ga2 u.globals.length gc2,.slice fa2 u.funcs.length fc2] 26)
 have hb3:=ba1 w2 (.cells #[.slice sa2 u.structs.length sc2,.slice ga2 u.globals.length gc2,.slice fa2 u.funcs.length fc2] 26)
 generalize w2.alloc (.cells #[.slice sa2 u.structs.length sc2,.slice ga2 u.globals.length gc2,.slice fa2 u.funcs.length fc2] 26) = w3 at *
 have HB3:=Ht HB2 hb3
 have HO:=Hd (fun w' (h:Below w3.heap.size w3 w')=>(three_block ((h.block _ (lt_of_heap hxo)).trans hxo)).1)
 have HOw:=Hd (fun w' (h:Below w3.heap.size w3 w')=>HUn.out.go (hb3.trans (h.mono hb3.size)))
 clear hxo hb3 q0 q1 q2
 obtain ⟨o0,o1,o2⟩:=HO.out w3 (Below.refl _ _)
 have HF3:=Hd ((file11_ok u _ _ _ w3 (HEw.out w3 HB3.out) (HOw.out w3 (Below.refl _ _))).mono fun e w' h=>fileU_of h)
 unfold FileU at HF3
 have hel:=entsU_len u
 have hel1:((entsU u).map Prod.snd).length ≤ 512:=by rw [List.length_map];exact hel
 have hel2:((entsU u).map Prod.fst).length ≤ 512:=by rw [List.length_map];exact hel
 have hfl:=fnsN_len u
 have HFn:=Hd (fun w' (h:Below w3.heap.size w3 w')=>(funcs11_ok u _ _ _ w' (HEw.out w' (HB3.out.trans (h.mono HB3.out.size))) (HOw.out w' h)).mono fun e w' h=>fnsU1_of h)
 unfold FnsU1 at HFn
 have HRf:=Hd (fun w' (h:Below w3.heap.size w3 w')=>(refFns_ok u _ _ _ w' (HUw.out w' (HB3.out.trans (h.mono HB3.out.size)))).mono fun e w' h=>fnsU2_of h)
 unfold FnsU2 at HRf
 have HRe:=Hd (fun w' (h:Below w3.heap.size w3 w')=>(refFile_ok u _ _ _ w' (HUw.out w' (HB3.out.trans (h.mono HB3.out.size)))).mono fun e w' h=>fileU_of h)
 unfold FileU at HRe
 have HSame:=Hd (fun w' (h:Below w3.heap.size w3 w')=>sameUnit_ok u u _ _ _ _ _ _ true w' (HOw.out w' h) (HUw.out w' (HB3.out.trans (h.mono HB3.out.size))) (likeUn_refl _ _))
 generalize hL1:(entsU u).map Prod.snd = L1 at *
 generalize hL2:(entsU u).map Prod.fst = L2 at *
 generalize fltU u = flt at *
 generalize fnsN u = fns at *
 obtain ⟨fx,fc⟩:=flt
 simp only at HF3 HFn HRf HRe
 clear hL1 hL2 hel
 have hli1:(L1.length:Int) ≤ 512:=by omega
 have hli2:(L2.length:Int) ≤ 512:=by omega
 go_upto_region 3 with (go_at_call 6;(with_reducible refine HF3.out.mono ?_);rintro e w4 ⟨hb4,a1,c1,a2,c2,rfl,hs1,hs2⟩;have HB4:=Hd hb4;have HS1:=Hd hs1;have HS2:=Hd hs2;clear hb4 hs1 hs2)
 have hx6:=heap_alloc_new w4 (.cells #[.int .i64 fx,.int .i64 fc] 32)
 have hb5:=ba1 w4 (.cells #[.int .i64 fx,.int .i64 fc] 32)
 generalize w4.alloc (.cells #[.int .i64 fx,.int .i64 fc] 32) = w5 at *
 have HB5:=Ht HB4 hb5
 have HX6b:=Hd (fun w' (h:Below w5.heap.size w5 w')=>(h.block _ (lt_of_heap hx6)).trans hx6)
 have HX6:=Hd (fun w' (h:Below w5.heap.size w5 w')=>two_block ((h.block _ (lt_of_heap hx6)).trans hx6))
 have HZ6:=Hd (show w3.heap.size ≤ w4.heap.size ∧ w4.heap.size < w5.heap.size from ⟨HB4.out.size,lt_of_heap hx6⟩)
 have HS1w:=Hd (fun w' (h:Below w5.heap.size w5 w')=>(HS1.out.below (hb5.trans (h.mono hb5.size)) (Nat.le_refl _)).mono (hb5.trans (h.mono hb5.size)).size)
 have HS2w:=Hd (fun w' (h:Below w5.heap.size w5 w')=>(HS2.out.below (hb5.trans (h.mono hb5.size)) (Nat.le_refl _)).mono (hb5.trans (h.mono hb5.size)).size)
 clear hx6 hb5 o0 o1 o2 HS1 HS2
 obtain ⟨q0,q1,q2⟩:=HQ.out w5 (HB3.out.trans (HB5.out.mono HB3.out.size))
 go_upto_region 4 with (go_at_call 7;(with_reducible refine (HRe.out w5 HB5.out).mono ?_);rintro e w6 ⟨hb6,a3,c3,a4,c4,rfl,hs1,hs2⟩;have HB6:=Hd hb6;have HS3:=Hd hs1;have HS4:=Hd hs2;clear hb6 hs1 hs2)
 have hx9:=heap_alloc_new w6 (.cells #[.int .i64 fx,.int .i64 fc] 32)
 have hb7:=ba1 w6 (.cells #[.int .i64 fx,.int .i64 fc] 32)
 generalize w6.alloc (.cells #[.int .i64 fx,.int .i64 fc] 32) = w7 at *
 have HB67:=Ht HB6 hb7
 have HB7:=Hd (HB5.out.trans (HB67.out.mono HB5.out.size))
 have HX9b:=Hd (fun w' (h:Below w7.heap.size w7 w')=>(h.block _ (lt_of_heap hx9)).trans hx9)
 have HX9:=Hd (fun w' (h:Below w7.heap.size w7 w')=>two_block ((h.block _ (lt_of_heap hx9)).trans hx9))
 have HZ9:=Hd (show w5.heap.size ≤ w6.heap.size ∧ w6.heap.size < w7.heap.size from ⟨HB6.out.size,lt_of_heap hx9⟩)
 have HS3w:=Hd (fun w' (h:Below w7.heap.size w7 w')=>(HS3.out.below (hb7.trans (h.mono hb7.size)) (Nat.le_refl _)).mono (hb7.trans (h.mono hb7.size)).size)
 have HS4w:=Hd (fun w' (h:Below w7.heap.size w7 w')=>(HS4.out.below (hb7.trans (h.mono hb7.size)) (Nat.le_refl _)).mono (hb7.trans (h.mono hb7.size)).size)
 have HB57:=Hd (fun w' (h:Below w7.heap.size w7 w')=>HB67.out.trans (h.mono HB67.out.size))
 clear hx9 hb7 q0 q1 q2 HS3 HS4
 obtain ⟨⟨x0,x1⟩,_⟩:=HX6.out w7 (HB57.out w7 (Below.refl _ _))
 obtain ⟨⟨z0,z1⟩,_⟩:=HX9.out w7 (Below.refl _ _)
 have HBn:=Hd (bindings11_ok a1 a3 c1 c3 L1 w7 (HS1w.out w7 (HB57.out w7 (Below.refl _ _))) (HS3w.out w7 (Below.refl _ _)) (by omega))
 have HSt:=Hd (fun w' (h:Below w7.heap.size w7 w')=>sameTexts_ok a2 a4 c2 c4 L2 w' (HS2w.out w' (HB57.out w' h)) (HS4w.out w' h) (by omega))
 have te:∀ z:Int,(z == z) = true:=by simp
 have tn:∀ z:Int,(z != z) = false:=by simp
 go_upto_region 6 with (first
  | (go_at_call 8;(with_reducible refine HBn.out.mono ?_);rintro e w8 ⟨rfl,hb8⟩;have HB8:=Hd hb8;clear hb8)
  | (go_at_call 9;(with_reducible refine (HSt.out w8 HB8.out).mono ?_);rintro e w9 ⟨rfl,hb9⟩;have HB9:=Ht HB8 hb9;clear hb9))
 have HB39:=Hd (HB7.out.trans (HB9.out.mono HB7.out.size))
 have HZ93:=Hd (show w6.heap.size < w9.heap.size ∧ w4.heap.size < w9.heap.size from ⟨Nat.lt_of_lt_of_le HZ9.out.2 HB9.out.size,Nat.lt_of_lt_of_le HZ6.out.2 (Nat.le_trans HZ9.out.1 (Nat.le_of_lt (Nat.lt_of_lt_of_le HZ9.out.2 HB9.out.size)))⟩)
 clear x0 x1 z0 z1
 obtain ⟨o0,o1,o2⟩:=HO.out w9 HB39.out
 go_upto_region 7 with (go_at_call 10;(with_reducible refine (HFn.out w9 HB39.out).mono ?_);rintro e w10 ⟨hb10,ax,cx,Q,rfl,hfx,hqx⟩;have HB10:=Hd hb10;have HFx:=Hd hfx;have HQx:=Hd hqx;have HX10:=Hd (HX6b.out w10 (HB57.out w10 (HB9.out.trans (hb10.mono HB9.out.size))));obtain ⟨⟨x0,x1⟩,xf⟩:=two_block HX10.out;have xf0:=xf 0;have xf1:=xf 1;clear xf hb10 hfx hqx)
 have hx11:((w10.setCell ⟨w4.heap.size,0,none⟩ (.int .i64 fx)).setCell ⟨w4.heap.size,1,none⟩ (.int .i64 fc)).heap[w4.heap.size]? = some (.cells #[.int .i64 fx,.int .i64 fc] 32 (0,0)):=by
  simp [World.setCell,Array.getElem?_modify,HX10.out]
 have hb11:Below w3.heap.size w3 ((w10.setCell ⟨w4.heap.size,0,none⟩ (.int .i64 fx)).setCell ⟨w4.heap.size,1,none⟩ (.int .i64 fc)):=((HB39.out.trans (HB10.out.mono HB39.out.size)).setCell (p:=⟨w4.heap.size,0,none⟩) HZ6.out.1 _).setCell (p:=⟨w4.heap.size,1,none⟩) HZ6.out.1 _
 have hmv11:∀ k,k ≠ w4.heap.size → ((w10.setCell ⟨w4.heap.size,0,none⟩ (.int .i64 fx)).setCell ⟨w4.heap.size,1,none⟩ (.int .i64 fc)).heap[k]? = w10.heap[k]?:=fun k hk=>by
  rw [Below.heap_setCell _ _ _ _ hk,Below.heap_setCell _ _ _ _ hk]
 have hsz11:((w10.setCell ⟨w4.heap.size,0,none⟩ (.int .i64 fx)).setCell ⟨w4.heap.size,1,none⟩ (.int .i64 fc)).heap.size = w10.heap.size:=by simp
 generalize (w10.setCell ⟨w4.heap.size,0,none⟩ (.int .i64 fx)).setCell ⟨w4.heap.size,1,none⟩ (.int .i64 fc) = w11 at *
 have HB11:=Hd hb11
 have HX11:=Hd hx11
 have HFx11:=Hd (HFx.out.move (Nat.le_refl _) (fun k hk=>hmv11 k (by have:=HZ93.out;omega)) (Nat.le_of_eq hsz11.symm))
 have HX9c:=Hd (show w11.heap[w6.heap.size]? = some (.cells #[.int .i64 fx,.int .i64 fc] 32 (0,0)) from (hmv11 _ (by have h1:=HZ6.out;have h2:=HZ9.out;omega)).trans (HX9b.out w10 (HB9.out.trans (HB10.out.mono HB9.out.size))))
 have HZ11:=Hd (show w9.heap.size ≤ w11.heap.size from by rw [hsz11];exact HB10.out.size)
 clear hx11 hb11 hmv11 hsz11 x0 x1 xf0 xf1 o0 o1 o2
 obtain ⟨q0,q1,q2⟩:=HQ.out w11 (HB3.out.trans (HB11.out.mono HB3.out.size))
 go_upto_region 8 with (go_at_call 11;(with_reducible refine (HRf.out w11 HB11.out).mono ?_);rintro e w12 ⟨hb12,ay,cy,R,M,rfl,hM,hfy,hqy⟩;have HB12:=Hd hb12;have HFy:=Hd hfy;have HQy:=Hd hqy;have HM:=Hd hM;have HX12:=Hd ((hb12.block _ (lt_of_heap HX9c.out)).trans HX9c.out);obtain ⟨⟨z0,z1⟩,zf⟩:=two_block HX12.out;have zf0:=zf 0;have zf1:=zf 1;clear zf hb12 hfy hqy hM)
 have hx13:((w12.setCell ⟨w6.heap.size,0,none⟩ (.int .i64 fx)).setCell ⟨w6.heap.size,1,none⟩ (.int .i64 fc)).heap[w6.heap.size]? = some (.cells #[.int .i64 fx,.int .i64 fc] 32 (0,0)):=by
  simp [World.setCell,Array.getElem?_modify,HX12.out]
 have hz63:w3.heap.size ≤ w6.heap.size:=by have h1:=HZ6.out;have h2:=HZ9.out;omega
 have hb13:Below w3.heap.size w3 ((w12.setCell ⟨w6.heap.size,0,none⟩ (.int .i64 fx)).setCell ⟨w6.heap.size,1,none⟩ (.int .i64 fc)):=((HB11.out.trans (HB12.out.mono HB11.out.size)).setCell (p:=⟨w6.heap.size,0,none⟩) hz63 _).setCell (p:=⟨w6.heap.size,1,none⟩) hz63 _
 have hmv13:∀ k,k ≠ w6.heap.size → ((w12.setCell ⟨w6.heap.size,0,none⟩ (.int .i64 fx)).setCell ⟨w6.heap.size,1,none⟩ (.int .i64 fc)).heap[k]? = w12.heap[k]?:=fun k hk=>by
  rw [Below.heap_setCell _ _ _ _ hk,Below.heap_setCell _ _ _ _ hk]
 have hsz13:((w12.setCell ⟨w6.heap.size,0,none⟩ (.int .i64 fx)).setCell ⟨w6.heap.size,1,none⟩ (.int .i64 fc)).heap.size = w12.heap.size:=by simp
 have hM6:w6.heap.size < M:=Nat.lt_of_lt_of_le HZ93.out.1 (Nat.le_trans HZ11.out HM.out)
 have HFy13:=Hd ((HFy.out.kept (grn_setU w12 w6.heap.size 0 (.int .i64 fx)) (fun r e=>by cases e;exact hM6)).kept (grn_setU _ w6.heap.size 1 (.int .i64 fc)) (fun r e=>by cases e;exact hM6))
 generalize (w12.setCell ⟨w6.heap.size,0,none⟩ (.int .i64 fx)).setCell ⟨w6.heap.size,1,none⟩ (.int .i64 fc) = w13 at *
 have HB13:=Hd hb13
 have HFx13:=Hd ((HFx11.out.below HB12.out).move (Nat.le_refl _) (fun k hk=>hmv13 k (by have:=HZ93.out;omega)) (Nat.le_of_eq hsz13.symm))
 have HX6d:=Hd ((hmv13 w4.heap.size (by have h1:=HZ6.out;have h2:=HZ9.out;omega)).trans ((HB12.out.block _ (lt_of_heap HX11.out)).trans HX11.out))
 have HZ13:=Hd (show w9.heap.size ≤ w13.heap.size from by rw [hsz13];exact Nat.le_trans HZ11.out HB12.out.size)
 have hql:Q.length ≤ 128:=by rw [← List.length_map (f:=Prod.fst),HQx.out];exact hfl
 have hrl:R.length ≤ 128:=by rw [← List.length_map (f:=Prod.fst),HQy.out];exact hfl
 have hfx:=HFx13.out.is hql
 have hfy:=HFy13.out.is (by omega)
 rw [HQx.out] at hfx
 rw [HQy.out] at hfy
 have HSu:=Hd (sameUnit_ok ⟨[],[],fns⟩ ⟨[],[],fns⟩ _ _ _ _ _ _ true w13 (isUn_fns hfx) (isUn_fns hfy) (likeUn_refl _ _))
 obtain ⟨⟨x0,x1⟩,_⟩:=two_block HX6d.out
 clear z0 z1 zf0 zf1 hfx hfy hb13 hmv13 hsz13 hM6 hz63 q0 q1 q2
 obtain ⟨⟨z0,z1⟩,_⟩:=two_block hx13
 clear hx13
 have hqi:(Q.length:Int) ≤ 128:=by omega
 go_upto_region 10 with (go_at_call 12;(with_reducible refine HSu.out.mono ?_);rintro e w14 ⟨rfl,hb14⟩;have HB14:=Hd hb14;clear hb14)
 have HB14':=Hd (HB13.out.trans (HB14.out.mono HB13.out.size))
 have HFx14:=Hd (HFx13.out.below HB14.out)
 have HZ14:=Hd (show w3.heap.size ≤ w9.heap.size ∧ w9.heap.size ≤ w14.heap.size from ⟨HB39.out.size,Nat.le_trans HZ13.out HB14.out.size⟩)
 have HXa:=Hd (fun g (e:ax = some ⟨g,0,none⟩)=>show XAt w9.heap.size w14 g Q from xAt_of (c:=cx) (by rw [← e];exact HFx14.out))
 clear x0 x1 z0 z1
 go_wp2_with fail
 go_loopg [12] Q.length (fun m v12 wy=>∃ (i:Nat),i ≤ Q.length ∧ i + m = Q.length ∧ v12 = .int .i64 (i:Int) ∧ Hid (∀ g,ax = some ⟨g,0,none⟩ → XAt w9.heap.size wy g Q) ∧ Hid (Below w9.heap.size w14 wy))
 case atStart=>exact ⟨0,by omega,by omega,rfl,HXa,Hd (Below.refl _ _)⟩
 case round=>
  obtain ⟨i,hi,him,rfl,HX,HB⟩:=hrel
  by_cases hlt:i < Q.length
  ·obtain ⟨g,cap,hgs,_⟩:=own_rowAt fnU_len HFx14.out.1 rfl hlt
   obtain ⟨rfl,rfl⟩:ax = some ⟨g,0,none⟩ ∧ cx = cap:=by simpa using hgs
   have HX2:=Hd (HX.out g rfl)
   obtain ⟨ab,cb,hab,_⟩:=(HFx14.out.2 _ (List.getElem_mem hlt)).body
   have HRow:=Hd (fun wy (h:XAt w9.heap.size wy g Q)=>show wy.cell? ⟨g,i * 5 + 4,none⟩ = some (.slice ab Q[i].1.body.length cb) from by rw [← hab];exact h.row i hlt)
   have HBd:=Hd (fun wy (h:XAt w9.heap.size wy g Q) (hne:Q[i].1.body ≠ [])=>h.body i hlt hne)
   rw [hab] at HBd
   have hbl:Q[i].1.body.length ≤ 2199023255488:=by
    obtain ⟨a9,c9,e9,h9,_⟩:=(HFx14.out.2 _ (List.getElem_mem hlt)).body
    have:=h9.1
    omega
   generalize Q[i].1.body = bd at *
   have hbi:(bd.length:Int) ≤ 2199023255488:=by omega
   clear hgs hab
   go_wp2_with fail
   go_loopg [13] bd.length (fun m v13 wy=>∃ (k:Nat),k ≤ bd.length ∧ k + m = bd.length ∧ v13 = .int .i64 (k:Int) ∧ Hid (XAt w9.heap.size wy g Q) ∧ Hid (Below w9.heap.size w14 wy))
   case atStart=>exact ⟨0,by omega,by omega,rfl,HX2,HB⟩
   case round=>
    obtain ⟨k,hk,hkm,rfl,HX3,HB3'⟩:=hrel
    have m4:=HRow.out wr HX3.out
    by_cases hkl:k < bd.length
    ·obtain ⟨b,off,c,hsb,hbB,hbg,hbf,hbc⟩:=HBd.out wr HX3.out (fun e=>by rw [e] at hkl;cases hkl)
     obtain ⟨rfl,rfl⟩:ab = some ⟨b,off,none⟩ ∧ cb = c:=by simpa using hsb
     obtain ⟨u0,n0⟩:=Option.isSome_iff_exists.1 (hbc k 0 hkl (by omega))
     obtain ⟨u1,n1⟩:=Option.isSome_iff_exists.1 (hbc k 1 hkl (by omega))
     obtain ⟨u2,n2⟩:=Option.isSome_iff_exists.1 (hbc k 2 hkl (by omega))
     obtain ⟨u3,n3⟩:=Option.isSome_iff_exists.1 (hbc k 3 hkl (by omega))
     obtain ⟨u4,n4⟩:=Option.isSome_iff_exists.1 (hbc k 4 hkl (by omega))
     obtain ⟨u5,n5⟩:=Option.isSome_iff_exists.1 (hbc k 5 hkl (by omega))
     rw [Nat.add_zero] at n0
     have f0:=hbf (off + k * 6)
     have f1:=hbf (off + k * 6 + 1)
     have f2:=hbf (off + k * 6 + 2)
     have f3:=hbf (off + k * 6 + 3)
     have f4:=hbf (off + k * 6 + 4)
     have f5:=hbf (off + k * 6 + 5)
     have HbB:=Hd (And.intro hbB hbg)
     clear hsb hbc hbf hbB hbg
     go_wp2_with fail
     go_roundg (bd.length - (k + 1))
     case measure=>omega
     case rel=>exact ⟨k + 1,by omega,by omega,by rw [Int.natCast_add];rfl,Hd ((((((HX3.out.set _ _ HbB.out.2).set _ _ HbB.out.2).set _ _ HbB.out.2).set _ _ HbB.out.2).set _ _ HbB.out.2).set _ _ HbB.out.2),Hd ((((((HB3'.out.setCell (p:=⟨b,off + k * 6,none⟩) HbB.out.1 _).setCell (p:=⟨b,off + k * 6 + 1,none⟩) HbB.out.1 _).setCell (p:=⟨b,off + k * 6 + 2,none⟩) HbB.out.1 _).setCell (p:=⟨b,off + k * 6 + 3,none⟩) HbB.out.1 _).setCell (p:=⟨b,off + k * 6 + 4,none⟩) HbB.out.1 _).setCell (p:=⟨b,off + k * 6 + 5,none⟩) HbB.out.1 _)⟩
    ·obtain rfl:k = bd.length:=by omega
     have HX4:=Hd (show ∀ g',some (⟨g,0,none⟩:Addr) = some ⟨g',0,none⟩ → XAt w9.heap.size wr g' Q from fun g' e=>by
      simp only [Option.some.injEq,Addr.mk.injEq,and_true] at e
      rw [← e]
      exact HX3.out)
     go_wp2_with fail
     go_roundg (Q.length - (i + 1))
     case measure=>omega
     case rel=>exact ⟨i + 1,by omega,by omega,by rw [Int.natCast_add];rfl,HX4,HB3'⟩
  ·obtain rfl:i = Q.length:=by omega
   have HB15:=Hd (HB14'.out.trans (HB.out.mono HZ14.out.1))
   have HBt:=Hd (built11_ok wr)
   have HZr:=Hd (show w3.heap.size ≤ wr.heap.size from HB15.out.size)
   go_upto_region 18 with (first
    | (go_at_call 13;(with_reducible refine HBt.out.mono ?_);rintro e w16 ⟨rfl,hw16⟩;have hp16:BltAt w16 wr.heap.size:=(by rw [hw16];exact heap_alloc_new _ _);have hb16:Below wr.heap.size wr w16:=(by rw [hw16];exact ba1 _ _);clear hw16;have HP16:=Hd hp16;have HB16:=Hd hb16;have HRb:=Hd (refBuilt_at w16);clear hp16 hb16)
    | (go_at_call 14;(with_reducible refine HRb.out.mono ?_);rintro e w17 ⟨rfl,hb17,hbl⟩;have HB17:=Hd hb17;have HQ17:=Hd hbl;clear hb17 hbl))
   have HP17:=Hd ((bltFrom_0 HP16.out).below (lt_of_heap HP16.out) HB17.out)
   have HB17':=Hd (HB15.out.trans ((HB16.out.trans (HB17.out.mono HB16.out.size)).mono HZr.out))
   have hzp:wr.heap.size < w16.heap.size:=lt_of_heap HP16.out
   have hzq:w16.heap.size < w17.heap.size:=lt_of_heap HQ17.out
   generalize hgq:w16.heap.size = gq at *
   generalize hgp:wr.heap.size = gp at *
   have hzg:gp < gq:=by omega
   have HZp:=Hd (And.intro hzg (And.intro HZr.out (show gq < w17.heap.size from hzq)))
   have hne:((10:Int) != 10) = false:=by decide
   clear hlt him hi hzp hzq hzg hgp hgq HBt HRb
   go_wp2_with fail
   go_loopg [16] 10 (fun m v16 wy=>∃ (i:Nat),i ≤ 10 ∧ i + m = 10 ∧ v16 = .int .i64 (i:Int) ∧ Hid (BltFrom wy gp i) ∧ Hid (BltAt wy gq) ∧ Hid (Below w3.heap.size w3 wy))
   case atStart=>exact ⟨0,by omega,by omega,rfl,HP17,HQ17,HB17'⟩
   case round=>
    obtain ⟨i,hi,him,rfl,HP,HQq,HBy⟩:=hrel
    have hgz:gp < wr.heap.size:=by have h1:=HZp.out.1;have h2:=lt_of_heap HQq.out;omega
    by_cases hlt:i < 10
    ·obtain ⟨p0,p1,p2⟩:=HP.out.rest i (Nat.le_refl _) hlt
     obtain ⟨r0,r1,r2⟩:=HQq.out.cells hlt
     have hi0:(0:Int) ≤ (i:Int):=by omega
     have hi1:(i:Int) < 10:=by omega
     have ts:∀ z:List UInt8,(z == z) = true:=by simp
     have tsn:∀ z:List UInt8,(z != z) = false:=by simp
     generalize (builtL.getD i (⟨#[]⟩,⟨#[]⟩)).1 = bn at *
     generalize (builtL.getD i (⟨#[]⟩,⟨#[]⟩)).2 = bt at *
     go_upto_region 23 with fail
     go_quiet (fail)
     have hbd:=blw_drewN (Below.refl wr.heap.size wr) nq
     have HP2:=Hd (HP.out.below hgz hbd)
     have HQ2:=Hd (HQq.out.below hbd)
     have HB2':=Hd (blw_drewN HBy.out nq)
     clear p0 p1 p2 r0 r1 r2
     obtain ⟨p0,p1,p2⟩:=HP2.out.rest i (Nat.le_refl _) hlt
     have pf:=HP2.out.free (i * 3)
     clear hbd
     generalize wr.drewN nq = wr2 at *
     go_wp2_with fail
     go_roundg (10 - (i + 1))
     case measure=>omega
     case rel=>exact ⟨i + 1,by omega,by omega,by rw [Int.natCast_add];rfl,Hd (HP2.out.set _),Hd (HQ2.out.far _ _ (by have h1:=HZp.out.1;show gq ≠ gp;omega)),Hd (HB2'.out.setCell (p:=⟨gp,i * 3,none⟩) HZp.out.2.1 _)⟩
    ·obtain rfl:i = 10:=by omega
     have HSm:=Hd (HSame.out wr HBy.out)
     obtain ⟨o0,o1,o2⟩:=HO.out wr HBy.out
     obtain ⟨q0,q1,q2⟩:=HQ.out wr (HB3.out.trans (HBy.out.mono HB3.out.size))
     go_wp2_with (first
      | (go_at_call 12;(with_reducible refine HSm.out.mono ?_);rintro e w18 ⟨rfl,hb18⟩;have HB18:=Ht HBy hb18;have HBt2:=Hd (built11_ok w18);clear hb18)
      | (go_at_call 13;(with_reducible refine HBt2.out.mono ?_);rintro e w19 ⟨rfl,hw19⟩;have hp19:BltAt w19 w18.heap.size:=(by rw [hw19];exact heap_alloc_new _ _);have HB19:=Hd (show Below w3.heap.size w3 w19 from (by rw [hw19];exact HB18.out.alloc HB18.out.size _));have m0:w19.cell? ⟨w18.heap.size,0,none⟩ = some (.string ⟨#[103,101,116,99,104,97,114]⟩):=(hp19.cells (i:=0) (by decide)).1;clear hw19 hp19))
     go_ret
     exact ⟨rfl,HB1.out.trans ((HB3.out.trans (HB19.out.mono HB3.out.size)).mono HB1.out.size)⟩
end Go.Proofs.YtbbaooeioogijaaGreatDoor
