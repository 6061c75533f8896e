/- A unit laid out: the program's Print. -/
import Derived.Test.YtkokdafkjjcgoaaGreatDoorMg34
namespace Go.Proofs.YtkokdafkjjcgoaaGreatDoor
open Go.RowKit
theorem good_wt {t:Tok} (h:goodB t = true):wt t ≤ 16386:=by
 have:=good_size h
 unfold wt
 split
 ·omega
 ·split <;> omega
theorem byt_good:∀ {L:List Tok},AllG L → byt L ≤ L.length * 16387
 | [],_=>Nat.zero_le _
 | x :: r,h=>by
   have h1:=good_wt (h x (by simp))
   have h2:=byt_good (L:=r) (fun y hy=>h y (List.mem_cons_of_mem _ hy))
   rw [byt_cons,List.length_cons,Nat.succ_mul]
   omega
theorem itemT_len {t:List Nd} (h:checkN9 t = 0):(itemT t).length ≤ 67141634:=by
 obtain ⟨fr,hR⟩:=check_right h
 have hp:=hR.given.formed.pos
 have h1:=exprN_short hR (k:=t.length - 1) (by omega)
 have h2:=partF_len t (exprN t fr) 2 (t.length - 1)
 unfold itemT partN
 rw [hR.begins,Option.getD_some]
 omega
theorem globT_len {g:GlU} (h:∀ t ∈ g.init,checkN9 t = 0) (hl:g.init.length ≤ 4096):(globT g).length < 1000000000000:=by
 have h1:(itemsF g.init g.init.length).length ≤ g.init.length * 67141635:=by
  have:=flatT_len (l:=List.range g.init.length) (f:=fun i=>(if 0 < i then [tkM ⟨#[44]⟩] else []) ++ match g.init[i]? with
   | some t=>itemT t
   | none=>[]) (c:=67141635) (fun i _=>by
     have h1:(if 0 < i then [tkM ⟨#[44]⟩] else []).length ≤ 1:=by split <;> simp
     rw [List.length_append]
     generalize (if 0 < i then [tkM ⟨#[44]⟩] else []).length = z at *
     cases hi:g.init[i]? with
     | none=>dsimp only;rw [List.length_nil];omega
     | some t=>
       have:=itemT_len (h t (List.mem_of_getElem? hi))
       dsimp only
       omega)
  rw [List.length_range] at this
  exact this
 have h2:=declK_len g.var.type g.var.name
 have h3:(volT g.var.vol).length ≤ 1:=by unfold volT;split <;> simp
 have h4:∀ c,(brT (bracesB g) c).length ≤ 1:=fun c=>by unfold brT;split <;> simp
 have h5:=h4 123
 have h6:=h4 125
 have h7:(if 0 < g.init.length then tkM ⟨#[61]⟩ :: (brT (bracesB g) 123 ++ (itemsF g.init g.init.length ++ brT (bracesB g) 125)) else []).length ≤ 275012136963:=by
  split
  ·simp only [List.length_cons,List.length_append];omega
  ·simp
 unfold globT
 simp only [List.length_append,List.length_singleton]
 omega
theorem UnitR.struct {u:UnU} (h:UnitR u) {s:Sr} (hs:s ∈ u.structs):AllG (structT s) ∧ byt (structT s) ≤ 140000000000000 ∧ (structT s).length < 1000000000000:=by
 obtain ⟨h1,h2⟩:=h.strs s hs
 have h3:=structT_len s
 have h4:=byt_good (structT_good h1)
 exact ⟨structT_good h1,by omega,by omega⟩
theorem UnitR.global {u:UnU} (h:UnitR u) {g:GlU} (hg:g ∈ u.globals):AllG (globT g) ∧ byt (globT g) ≤ 140000000000000 ∧ (globT g).length < 1000000000000:=by
 obtain ⟨_,h2,h3⟩:=h.glbs g hg
 have:=globT_byt (fun t ht=>(h2 t ht).1) h3
 exact ⟨globT_good h2,by omega,globT_len (fun t ht=>(h2 t ht).1) h3⟩
theorem UnitR.func {u:UnU} (h:UnitR u) {f:FnU} (hf:f ∈ u.funcs):AllG (funT f) ∧ byt (funT f) ≤ 140000000000000 ∧ (funT f).length < 1000000000000:=by
 obtain ⟨_,h2,h3⟩:=h.funs f hf
 have h4:=funT_len h2
 have h5:=byt_good (funT_good h2)
 exact ⟨funT_good h2,by omega,by omega⟩
theorem lineU_len {l:List UInt8} {L:List Tok} (hg:AllG L) (hb:byt L ≤ 140000000000000) (h:l.length ≤ 140000000065537):(lineU l L).length ≤ 140000000065537:=by
 have h1:=laid_byt hg
 have h2:(laidW L).data.toList.length = (laidW L).size:=by rw [Array.length_toList];rfl
 unfold lineU
 split
 ·simp only [List.length_append,List.length_cons,List.length_nil];omega
 ·exact h
theorem strU_at {B:Nat} {w:World} {v:Value} {L:List Sr} (h:IsStU B w v L) {i:Nat} (hi:i < L.length):∃ b off cap q,v = .slice (some ⟨b,off,none⟩) L.length cap ∧ b < B ∧ w.cell? ⟨b,off + i * 2,none⟩ = some (.string L[i].name) ∧ w.cell? ⟨b,off + i * 2 + 1,none⟩ = some q ∧ IsMems B w q L[i].mems:=by
 obtain ⟨a,cap,mv,e,_,hs⟩:=h
 obtain ⟨b,off,rfl,hb,hr⟩:=hs.at_ (fun e=>by rw [e] at hi;exact Nat.not_lt_zero _ hi)
 have hl:=hs.len
 obtain ⟨h1,h2,h3⟩:=hr i _ _ (List.getElem?_eq_getElem hi) (List.getElem?_eq_getElem (show i < mv.length by omega))
 exact ⟨b,off,cap,_,e,hb,h1,h2,h3⟩
theorem foldU_next {α:Type} {f:α → List Tok} {L:List α} {i:Nat} (hi:i < L.length) (l:List UInt8):((L.take (i + 1)).map f).foldl lineU l = lineU (((L.take i).map f).foldl lineU l) (f L[i]):=by
 rw [List.take_succ_eq_append_getElem hi,List.map_append,List.foldl_append]
 rfl
theorem set_two_below {B b:Nat} {w w':World} (hb:Below B w w') (h:B ≤ b) (v0 v1:Value):Below B w ((w'.setCell ⟨b,0,none⟩ v0).setCell ⟨b,1,none⟩ v1):=(hb.setCell h _).setCell h _
def linesU (u:UnU):List (List Tok):=u.structs.map structT ++ (u.globals.map globT ++ u.funcs.map funT)
def printUR (u:UnU):ByteArray × (Int × Int):=
 if (unitE u).2 ≠ 0 then (⟨#[]⟩,unitE u)
 else if 65536 < ((linesU u).foldl lineU []).length then (⟨#[]⟩,0,3)
 else (⟨((linesU u).foldl lineU []).toArray⟩,0,0)
theorem printUR_bad {u:UnU} (h:(unitE u).2 ≠ 0):printUR u = (⟨#[]⟩,unitE u):=by unfold printUR;rw [if_pos h]
def PrintUEnd (u:UnU) (w:World) (e:Ending) (w':World):Prop:=e = .returned (.tuple #[.string (printUR u).1,.agg #[.int .i64 (printUR u).2.1,.int .i64 (printUR u).2.2]]) ∧ Below w.heap.size w w'
set_option maxRecDepth 100000 in
set_option maxHeartbeats 8000000 in
theorem treePrint_of (u:UnU) (vs vg vf:Value) (w:World) (hE:EnvP w) (hU:IsUn w.heap.size w u vs vg vf)
 (hC:∀ w1,Below w.heap.size w w1 → Calls Tryz.prog 34 #[.agg #[vs,vg,vf]] w1 fun e w'=>e = .returned (.agg #[.int .i64 (unitE u).1,.int .i64 (unitE u).2]) ∧ Below w1.heap.size w1 w') :
 Calls Tryz.prog 32 #[.agg #[vs,vg,vf]] w (PrintUEnd u w):=by
 have HC:=Hd hC
 clear hC
 by_cases h:(unitE u).2 = 0
 ·have hR:=unit_right h
  have HR:=Hd hR
  have hv:=Hd (show printUR u = if 65536 < ((linesU u).foldl lineU []).length then (⟨#[]⟩,0,3) else (⟨((linesU u).foldl lineU []).toArray⟩,0,0) by unfold printUR;rw [if_neg (by rw [h];decide)])
  obtain ⟨lz,hlz⟩:∃ lz,lz = (linesU u).foldl lineU []:=⟨_,rfl⟩
  obtain ⟨rr,hrr⟩:∃ rr,rr = printUR u:=⟨_,rfl⟩
  unfold PrintUEnd
  rw [← hrr]
  have HRr:=Hd (hrr.trans hv.out)
  rw [← hlz] at HRr
  have HLz:=Hd hlz
  clear hlz hrr
  generalize unitE u = f at *
  obtain ⟨f1,f2⟩:=f
  simp only at h HC
  subst h
  obtain ⟨sa,sc,mv,rfl,hso,_⟩:=hU.structs
  obtain ⟨ga,gc,GQ,rfl,_⟩:=hU.globals
  obtain ⟨fa,fc,FQ,rfl,_⟩:=hU.funcs
  have HU:=Hd (fun w1 (hb:Below w.heap.size w w1)=>hU.below hb)
  have HE:=Hd hE
  clear hU hE hR hv
  go_enter Tryz.func32,Tryz.ntmps32
  go_upto_region 1 with fail
  generalize hg1:w.alloc _ = w1 at *
  generalize hg2:w1.alloc _ = w2 at *
  obtain ⟨hx1,hb1⟩:=alloc_at hg1
  obtain ⟨hx2,hb2⟩:=alloc_at hg2
  have hs1:w1.heap.size = w.heap.size + 1:=by rw [← hg1];simp
  have HX1:=Hd ((hb2.block _ (lt_of_heap hx1)).trans hx1)
  have HX2:=Hd hx2
  have HB2:=Hd (hb1.trans (hb2.mono hb1.size))
  rw [hs1] at hx2
  have y:=HX1.out
  have y0:w2.cell? ⟨w.heap.size,0,none⟩ = some (.slice sa u.structs.length sc):=by simp [World.cell?,y]
  have y1:w2.cell? ⟨w.heap.size,1,none⟩ = some (.slice ga u.globals.length gc):=by simp [World.cell?,y]
  have y2:w2.cell? ⟨w.heap.size,2,none⟩ = some (.slice fa u.funcs.length fc):=by simp [World.cell?,y]
  clear hg1 hg2 hx1 hb1 hb2 y
  rw [hs1] at HX2
  have HC2:=Hd (HC.out w2 HB2.out)
  clear HC hs1 hx2
  have d0:((0:Int) != 0) = false:=rfl
  go_upto_region 4 with (go_at_call 34;(with_reducible refine HC2.out.mono ?_);rintro e w3 ⟨rfl,hb⟩;have HB3:=Ht HB2 hb;have HX3:=Hd ((hb.block _ (lt_of_heap HX2.out)).trans HX2.out);have HX31:=Hd ((hb.block _ (lt_of_heap HX1.out)).trans HX1.out);clear hb)
  generalize hg4:w3.alloc _ = w4 at *
  have HB4:=Hd (HB3.out.trans ((alloc_at hg4).2.mono HB3.out.size))
  have HX41:=Hd (((alloc_at hg4).2.block _ (lt_of_heap HX31.out)).trans HX31.out)
  have HX42:=Hd (((alloc_at hg4).2.block _ (lt_of_heap HX3.out)).trans HX3.out)
  clear hg4 HX31 HX3 HB3 HC2 HX1 HX2 y0 y1 y2
  have HF:=Hd (Lib.fresh_isBuilder 122 5 w4)
  go_upto_region 6 with fail
  generalize hg5:w4.alloc _ = w5 at *
  have HB5:=Hd (HB4.out.trans ((alloc_at hg5).2.mono HB4.out.size))
  have hx5:=((alloc_at hg5).2.block _ (lt_of_heap HX41.out)).trans HX41.out
  have HX51:=Hd hx5
  have hlw2:w.heap.size + 1 < w4.heap.size:=lt_of_heap HX42.out
  have HX52:=Hd (((alloc_at hg5).2.block _ (lt_of_heap HX42.out)).trans HX42.out)
  have HP0:=Hd (show PageAt w4.heap.size w4.heap.size [] w5 from HF.out)
  have hlt5:w4.heap.size < w5.heap.size:=lt_of_heap (alloc_at hg5).1
  have hlw:w.heap.size + 1 ≤ w4.heap.size:=Nat.lt_of_lt_of_le (lt_of_heap HX41.out) (Nat.le_refl _)
  have y0:w5.cell? ⟨w.heap.size,0,none⟩ = some (.slice sa u.structs.length sc):=by simp [World.cell?,hx5]
  have hls:=HR.out.few.1
  have hls2:(u.structs.length:Int) ≤ 64:=by omega
  clear hg5 hx5 HF HX41 HX42
  go_wp2_with fail
  go_loopg [8,23] u.structs.length (fun g v8 v23 wr=>∃ i:Nat,i ≤ u.structs.length ∧ i + g = u.structs.length ∧ v23 = .int .i64 (i:Int) ∧ Hid (PageAt w4.heap.size w4.heap.size (((u.structs.take i).map structT).foldl lineU []) wr ∧ (((u.structs.take i).map structT).foldl lineU []).length ≤ 140000000065537 ∧ Below w4.heap.size w5 wr))
  case atStart=>exact ⟨0,Nat.zero_le _,by omega,rfl,Hd ⟨by simpa using HP0.out,by simp,Below.refl _ _⟩⟩
  case round=>
   obtain ⟨i,hi,hig,rfl,HI⟩:=hrel
   by_cases hlt:i < u.structs.length
   ·have hbw:=HB5.out.trans (HI.out.2.2.mono HB4.out.size)
    obtain ⟨bb,oo,cap,q,he,_,x0,x1,hM⟩:=strU_at (HU.out wr hbw).structs hlt
    simp only [Value.slice.injEq] at he
    obtain ⟨rfl,hx9,rfl⟩:=he
    clear hx9
    have hnx:=foldU_next (f:=structT) hlt []
    obtain ⟨g1,g2,g3⟩:=HR.out.struct (List.getElem_mem hlt)
    have hm64:=(HR.out.strs _ (List.getElem_mem hlt)).2
    have hii:(i:Int) < (u.structs.length:Int):=by omega
    have HNx:=Hd hnx
    have HGs:=Hd (And.intro g1 (And.intro g2 (And.intro g3 hm64)))
    clear hnx g1 g2 g3 hm64
    generalize u.structs[i] = x at *
    obtain ⟨xn,xm⟩:=x
    have hM0:=hM
    obtain ⟨qa,qc,hq,_⟩:=hM0
    subst hq
    go_upto_region 9 with fail
    generalize hg6:wr.alloc _ = w6 at *
    obtain ⟨hx6,hb6⟩:=alloc_at hg6
    have hb56:=HI.out.2.2.trans (hb6.mono (Nat.le_trans (Nat.le_of_lt hlt5) HI.out.2.2.size))
    have HLn:=Hd (line_ok (.inl rfl) w4.heap.size w4.heap.size _ (structT ⟨xn,xm⟩) (.pointer (some ⟨wr.heap.size,0,none⟩)) w6 (HI.out.1.below hb6) ((HE.out.below hbw).below hb6) (Nat.le_trans (Nat.le_of_lt hlt5) hb56.size) HGs.out.1 HGs.out.2.1 HI.out.2.1
     (put_struct9 hx6 (fun w9 hb9=>((hM.mono hbw.size).below (hb6.trans (hb9.mono hb6.size)) (Nat.le_refl _)).mono hb6.size) (Nat.le_trans HGs.out.2.2.2 (by decide)) HGs.out.2.2.1))
    have HB6:=Hd hb56
    clear hg6 hx6 hb6 hb56 hM x0 x1
    go_wp2_with (go_at_call 60;refine HLn.out.mono ?_;rintro e w7 ⟨rfl,hp,hb⟩;have HZ:=Hd (And.intro hp (HB6.out.trans (hb.mono (Nat.le_refl _))));clear hp hb)
    go_roundg (u.structs.length - (i + 1))
    case measure=>omega
    case rel=>exact ⟨i + 1,by omega,by omega,by rw [Int.natCast_add];rfl,Hd ⟨by rw [HNx.out];exact HZ.out.1,by rw [HNx.out];exact lineU_len HGs.out.1 HGs.out.2.1 HI.out.2.1,HZ.out.2⟩⟩
   ·obtain rfl:i = u.structs.length:=by omega
    obtain ⟨l1,hl1⟩:∃ l1,l1 = ((u.structs.take u.structs.length).map structT).foldl lineU []:=⟨_,rfl⟩
    have HI1:=HI
    rw [← hl1] at HI1
    have hx9:=(HI1.out.2.2.block w.heap.size (Nat.lt_of_lt_of_le (Nat.lt_succ_self _) hlw)).trans HX51.out
    have y1:wr.cell? ⟨w.heap.size,1,none⟩ = some (.slice ga u.globals.length gc):=by simp [World.cell?,hx9]
    have hlg:=HR.out.few.2.1
    have hlg2:(u.globals.length:Int) ≤ 256:=by omega
    clear hx9 HI hi hig hlt
    go_wp2_with fail
    generalize wr = wb at *
    go_loopg [10,34] u.globals.length (fun g v10 v34 wr=>∃ i:Nat,i ≤ u.globals.length ∧ i + g = u.globals.length ∧ v34 = .int .i64 (i:Int) ∧ Hid (PageAt w4.heap.size w4.heap.size (((u.globals.take i).map globT).foldl lineU l1) wr ∧ (((u.globals.take i).map globT).foldl lineU l1).length ≤ 140000000065537 ∧ Below w4.heap.size w5 wr))
    case atStart=>exact ⟨0,Nat.zero_le _,by omega,rfl,Hd (by simpa using HI1.out)⟩
    case round=>
     obtain ⟨i,hi,hig,rfl,HI⟩:=hrel
     by_cases hlt:i < u.globals.length
     ·have hbw:=HB5.out.trans (HI.out.2.2.mono HB4.out.size)
      obtain ⟨bb,oo,cap,q,he,_,hq,x0,x1,x2,x3,x4⟩:=glsU_at (HU.out wr hbw).globals hlt
      simp only [Value.slice.injEq] at he
      obtain ⟨rfl,hx9,rfl⟩:=he
      clear hx9
      have hnx:=foldU_next (f:=globT) hlt l1
      obtain ⟨g1,g2,g3⟩:=HR.out.global (List.getElem_mem hlt)
      have hgl:=HR.out.glbs _ (List.getElem_mem hlt)
      have hii:(i:Int) < (u.globals.length:Int):=by omega
      have HNx:=Hd hnx
      have HGs:=Hd (And.intro g1 (And.intro g2 (And.intro g3 hgl)))
      clear hnx g1 g2 g3 hgl
      generalize u.globals[i] = x at *
      obtain ⟨xa,⟨xn,xt,xv⟩,xi⟩:=x
      have hq:=hq.init
      obtain ⟨qa,qc,hqe⟩:=trs_len hq
      subst hqe
      go_upto_region 14 with fail
      generalize hg6:wr.alloc _ = w6 at *
      obtain ⟨hx6,hb6⟩:=alloc_at hg6
      have hb56:=HI.out.2.2.trans (hb6.mono (Nat.le_trans (Nat.le_of_lt hlt5) HI.out.2.2.size))
      have HLn:=Hd (line_ok (.inr (.inl rfl)) w4.heap.size w4.heap.size _ (globT ⟨xa,⟨xn,xt,xv⟩,xi⟩) (.pointer (some ⟨wr.heap.size,0,none⟩)) w6 (HI.out.1.below hb6) ((HE.out.below hbw).below hb6) (Nat.le_trans (Nat.le_of_lt hlt5) hb56.size) HGs.out.1 HGs.out.2.1 HI.out.2.1
       (put_global9 (g:=⟨xa,⟨xn,xt,xv⟩,xi⟩) hx6 (fun w9 hb9=>((hq.mono hbw.size).below (hb6.trans (hb9.mono hb6.size)) (Nat.le_refl _)).mono hb6.size) HGs.out.2.2.2.1 HGs.out.2.2.2.2.1 (Nat.le_trans HGs.out.2.2.2.2.2 (by decide)) HGs.out.2.2.1))
      have HB6:=Hd hb56
      clear hg6 hx6 hb6 hb56 hq x0 x1 x2 x3 x4
      go_wp2_with (go_at_call 60;refine HLn.out.mono ?_;rintro e w7 ⟨rfl,hp,hb⟩;have HZ:=Hd (And.intro hp (HB6.out.trans (hb.mono (Nat.le_refl _))));clear hp hb)
      go_roundg (u.globals.length - (i + 1))
      case measure=>omega
      case rel=>exact ⟨i + 1,by omega,by omega,by rw [Int.natCast_add];rfl,Hd ⟨by rw [HNx.out];exact HZ.out.1,by rw [HNx.out];exact lineU_len HGs.out.1 HGs.out.2.1 HI.out.2.1,HZ.out.2⟩⟩
     ·obtain rfl:i = u.globals.length:=by omega
      obtain ⟨l2,hl2⟩:∃ l2,l2 = ((u.globals.take u.globals.length).map globT).foldl lineU l1:=⟨_,rfl⟩
      have HI2:=HI
      rw [← hl2] at HI2
      have hx9:=(HI2.out.2.2.block w.heap.size (Nat.lt_of_lt_of_le (Nat.lt_succ_self _) hlw)).trans HX51.out
      have y2:wr.cell? ⟨w.heap.size,2,none⟩ = some (.slice fa u.funcs.length fc):=by simp [World.cell?,hx9]
      have hlf:=HR.out.few.2.2
      have hlf2:(u.funcs.length:Int) ≤ 256:=by omega
      clear hx9 HI hi hig hlt HI1
      generalize wr = wc at *
      go_wp2_with fail
      go_loopg [12,45] u.funcs.length (fun g v12 v45 wr=>∃ i:Nat,i ≤ u.funcs.length ∧ i + g = u.funcs.length ∧ v45 = .int .i64 (i:Int) ∧ Hid (PageAt w4.heap.size w4.heap.size (((u.funcs.take i).map funT).foldl lineU l2) wr ∧ (((u.funcs.take i).map funT).foldl lineU l2).length ≤ 140000000065537 ∧ Below w4.heap.size w5 wr))
      case atStart=>exact ⟨0,Nat.zero_le _,by omega,rfl,Hd (by simpa using HI2.out)⟩
      case round=>
       obtain ⟨i,hi,hig,rfl,HI⟩:=hrel
       by_cases hlt:i < u.funcs.length
       ·have hbw:=HB5.out.trans (HI.out.2.2.mono HB4.out.size)
        obtain ⟨bb,oo,cap,vp,vb,he,_,hq,x0,x1,x2,x3,x4⟩:=fnsU_at (HU.out wr hbw).funcs hlt
        simp only [Value.slice.injEq] at he
        obtain ⟨rfl,hx9,rfl⟩:=he
        clear hx9
        have hnx:=foldU_next (f:=funT) hlt l2
        obtain ⟨g1,g2,g3⟩:=HR.out.func (List.getElem_mem hlt)
        have hgl:=HR.out.funs _ (List.getElem_mem hlt)
        have hii:(i:Int) < (u.funcs.length:Int):=by omega
        have HNx:=Hd hnx
        have HGs:=Hd (And.intro g1 (And.intro g2 (And.intro g3 hgl)))
        clear hnx g1 g2 g3 hgl
        generalize u.funcs[i] = x at *
        obtain ⟨xa,xn,xt,xp,xb⟩:=x
        have hV:=hq.params
        have hT:=hq.body
        have hV0:=hV
        have hT0:=hT
        obtain ⟨qa,qc,hqe,_⟩:=hV0
        subst hqe
        obtain ⟨ra,rc,hre,_⟩:=hT0
        subst hre
        go_upto_region 19 with fail
        generalize hg6:wr.alloc _ = w6 at *
        obtain ⟨hx6,hb6⟩:=alloc_at hg6
        have hb56:=HI.out.2.2.trans (hb6.mono (Nat.le_trans (Nat.le_of_lt hlt5) HI.out.2.2.size))
        have HLn:=Hd (line_ok (.inr (.inr rfl)) w4.heap.size w4.heap.size _ (funT ⟨xa,xn,xt,xp,xb⟩) (.pointer (some ⟨wr.heap.size,0,none⟩)) w6 (HI.out.1.below hb6) ((HE.out.below hbw).below hb6) (Nat.le_trans (Nat.le_of_lt hlt5) hb56.size) HGs.out.1 HGs.out.2.1 HI.out.2.1
         (put_func9 (f:=⟨xa,xn,xt,xp,xb⟩) hx6 (fun w9 hb9=>((hV.mono hbw.size).below (hb6.trans (hb9.mono hb6.size)) (Nat.le_refl _)).mono hb6.size) (fun w9 hb9=>((hT.mono hbw.size).below (hb6.trans (hb9.mono hb6.size)) (Nat.le_refl _)).mono hb6.size) HGs.out.2.2.2.1 HGs.out.2.2.2.2.1 (Nat.le_trans HGs.out.2.2.2.2.2 (by decide)) HGs.out.2.2.1))
        have HB6:=Hd hb56
        clear hg6 hx6 hb6 hb56 hq hV hT x0 x1 x2 x3 x4
        go_wp2_with (go_at_call 60;refine HLn.out.mono ?_;rintro e w7 ⟨rfl,hp,hb⟩;have HZ:=Hd (And.intro hp (HB6.out.trans (hb.mono (Nat.le_refl _))));clear hp hb)
        go_roundg (u.funcs.length - (i + 1))
        case measure=>omega
        case rel=>exact ⟨i + 1,by omega,by omega,by rw [Int.natCast_add];rfl,Hd ⟨by rw [HNx.out];exact HZ.out.1,by rw [HNx.out];exact lineU_len HGs.out.1 HGs.out.2.1 HI.out.2.1,HZ.out.2⟩⟩
       ·obtain rfl:i = u.funcs.length:=by omega
        have hall:((u.funcs.take u.funcs.length).map funT).foldl lineU l2 = lz:=by
         rw [HLz.out,hl2,hl1,List.take_length,List.take_length,List.take_length,linesU,List.foldl_append,List.foldl_append]
        rw [hall] at HI
        have hlen:=blen9 w4.heap.size w4.heap.size _ wr HI.out.1
        rw [Lib.byteCells_length] at hlen
        have HLe:=Hd hlen
        have hS:=Tryz.Builder_String_any w4.heap.size w4.heap.size lz wr HI.out.1 (Nat.le_trans (Nat.le_of_lt hlt5) HI.out.2.2.size)
        have HS:=Hd hS
        have HBw:=Hd (HB5.out.trans (HI.out.2.2.mono HB4.out.size))
        have hxr:=(HI.out.2.2.block (w.heap.size + 1) hlw2).trans HX52.out
        have HXr:=Hd hxr
        obtain ⟨⟨r0,r1⟩,rf⟩:=two_block hxr
        have rf0:=rf 0
        have rf1:=rf 1
        clear hlen hall hl1 hl2 hS hxr rf
        by_cases hz:lz.length ≤ 65536
        ·have d1:decide ((65536:Int) < (lz.length:Int)) = false:=decide_eq_false (by omega)
         have hrv:=HRr.out
         rw [if_neg (show ¬ 65536 < lz.length by omega)] at hrv
         subst hrv
         go_wp2_with (first
          | (go_at_call 61;(with_reducible refine HLe.out.mono ?_);rintro e w1 ⟨rfl,hw1⟩;subst w1)
          | (go_at_call 69;refine HS.out.mono ?_;rintro e w9 ⟨rfl,hb9⟩;have hx9:=(hb9.block _ hlw2).trans HXr.out;have HX9:=Hd hx9;obtain ⟨⟨s0,s1⟩,sf⟩:=two_block hx9;have sf0:=sf 0;have sf1:=sf 1;have HB9:=Hd (HBw.out.trans (hb9.mono (Nat.le_trans (Nat.le_succ _) hlw)));clear hb9 hx9 sf))
         have hz:((w9.setCell ⟨w.heap.size + 1,0,none⟩ (.int .i64 0)).setCell ⟨w.heap.size + 1,1,none⟩ (.int .i64 0)).heap[w.heap.size + 1]? = some (.cells #[.int .i64 0,.int .i64 0] 68 (0,0)):=by
          have h5:=HX9.out
          simp [World.setCell,Array.getElem?_modify,h5]
         have hb5:=set_two_below HB9.out (Nat.le_succ _) (.int .i64 0) (.int .i64 0)
         generalize ((w9.setCell ⟨w.heap.size + 1,0,none⟩ (.int .i64 0)).setCell ⟨w.heap.size + 1,1,none⟩ (.int .i64 0)) = wx at *
         obtain ⟨⟨s0,s1⟩,_⟩:=two_block hz
         refine bodyPost_ret (v:=.tuple #[.string ⟨lz.toArray⟩,.agg #[.int .i64 0,.int .i64 0]]) ?_ rfl ⟨rfl,hb5⟩
         simp [results,Tryz.results32,go_sem,s0,s1]
        ·have d1:decide ((65536:Int) < (lz.length:Int)) = true:=decide_eq_true (by omega)
         have hrv:=HRr.out
         rw [if_pos (show 65536 < lz.length by omega)] at hrv
         subst hrv
         go_wp2_with (first
          | (go_at_call 61;(with_reducible refine HLe.out.mono ?_);rintro e w1 ⟨rfl,hw1⟩;subst w1))
         have hz:((wr.setCell ⟨w.heap.size + 1,0,none⟩ (.int .i64 0)).setCell ⟨w.heap.size + 1,1,none⟩ (.int .i64 3)).heap[w.heap.size + 1]? = some (.cells #[.int .i64 0,.int .i64 3] 68 (0,0)):=by
          have h5:=HXr.out
          simp [World.setCell,Array.getElem?_modify,h5]
         have hb5:=set_two_below HBw.out (Nat.le_succ _) (.int .i64 0) (.int .i64 3)
         generalize ((wr.setCell ⟨w.heap.size + 1,0,none⟩ (.int .i64 0)).setCell ⟨w.heap.size + 1,1,none⟩ (.int .i64 3)) = wx at *
         obtain ⟨⟨s0,s1⟩,_⟩:=two_block hz
         refine bodyPost_ret (v:=.tuple #[.string ⟨#[]⟩,.agg #[.int .i64 0,.int .i64 3]]) ?_ rfl ⟨rfl,hb5⟩
         simp [results,Tryz.results32,go_sem,s0,s1]
 ·have hv:=Hd (printUR_bad h)
  unfold PrintUEnd
  rw [hv.out]
  generalize unitE u = f at *
  obtain ⟨f1,f2⟩:=f
  simp only at h HC
  go_enter Tryz.func32,Tryz.ntmps32
  go_upto_region 1 with fail
  generalize hg1:w.alloc _ = w1 at *
  generalize hg2:w1.alloc _ = w2 at *
  obtain ⟨hx1,hb1⟩:=alloc_at hg1
  obtain ⟨hx2,hb2⟩:=alloc_at hg2
  have hs1:w1.heap.size = w.heap.size + 1:=by rw [← hg1];simp
  have HX1:=Hd ((hb2.block _ (lt_of_heap hx1)).trans hx1)
  have HX2:=Hd hx2
  have HB2:=Hd (hb1.trans (hb2.mono hb1.size))
  rw [hs1] at hx2
  have y:=HX1.out
  have y0:w2.cell? ⟨w.heap.size,0,none⟩ = some vs:=by simp [World.cell?,y]
  have y1:w2.cell? ⟨w.heap.size,1,none⟩ = some vg:=by simp [World.cell?,y]
  have y2:w2.cell? ⟨w.heap.size,2,none⟩ = some vf:=by simp [World.cell?,y]
  clear hg1 hg2 hx1 hb1 hb2 y
  rw [hs1] at HX2
  have HC2:=Hd (HC.out w2 HB2.out)
  clear HC hs1 hx2
  go_upto_region 3 with (go_at_call 34;(with_reducible refine HC2.out.mono ?_);rintro e w3 ⟨rfl,hb⟩;have HB3:=Ht HB2 hb;have HX3:=Hd ((hb.block _ (lt_of_heap HX2.out)).trans HX2.out);clear hb)
  generalize hg4:w3.alloc _ = w4 at *
  obtain ⟨hx4,hb4⟩:=alloc_at hg4
  have hs3:=HB3.out.size
  have HB4:=Ht HB3 hb4
  have hx3:=HX3.out
  have hne:w.heap.size + 1 ≠ w3.heap.size:=Nat.ne_of_lt (lt_of_heap hx3)
  have hx5:=(hb4.block _ (lt_of_heap hx3)).trans hx3
  obtain ⟨⟨z0,z1⟩,_⟩:=two_block hx4
  obtain ⟨⟨r0,r1⟩,rf⟩:=two_block hx5
  have rf0:=rf 0
  have rf1:=rf 1
  have HX5:=Hd hx5
  clear hg4 hx3 hx5 hb4 rf HC2 HX3 HB3 HB2 HX1 HX2 y0 y1 y2 hs3
  have HK:=Hd (fun (v0 v1:Value)=>show ((w4.setCell ⟨w.heap.size + 1,0,none⟩ v0).setCell ⟨w.heap.size + 1,1,none⟩ v1).cell? ⟨w3.heap.size,0,none⟩ = some (.int .i64 f1) ∧ ((w4.setCell ⟨w.heap.size + 1,0,none⟩ v0).setCell ⟨w.heap.size + 1,1,none⟩ v1).cell? ⟨w3.heap.size,1,none⟩ = some (.int .i64 f2) from by
   simp [World.cell?,World.setCell,Array.getElem?_modify,hne,hx4])
  clear hx4
  go_region_held3 (fun w'=>w'.cell? ⟨w3.heap.size,0,none⟩ = some (.int .i64 f1) ∧ w'.cell? ⟨w3.heap.size,1,none⟩ = some (.int .i64 f2)) (first | (constructor <;> assumption) | exact HK.out _ _) (fail)
  all_goals go_wp2_with fail
  all_goals
   have hz:((w4.setCell ⟨w.heap.size + 1,0,none⟩ (.int .i64 f1)).setCell ⟨w.heap.size + 1,1,none⟩ (.int .i64 f2)).heap[w.heap.size + 1]? = some (.cells #[.int .i64 f1,.int .i64 f2] 68 (0,0)):=by
    have h5:=HX5.out
    simp [World.setCell,Array.getElem?_modify,h5]
   have hb5:=set_two_below HB4.out (Nat.le_succ _) (.int .i64 f1) (.int .i64 f2)
   generalize ((w4.setCell ⟨w.heap.size + 1,0,none⟩ (.int .i64 f1)).setCell ⟨w.heap.size + 1,1,none⟩ (.int .i64 f2)) = w5 at *
   obtain ⟨⟨s0,s1⟩,_⟩:=two_block hz
   have t0:w5.drew.cell? ⟨w.heap.size + 1,0,none⟩ = some (.int .i64 f1):=s0
   have t1:w5.drew.cell? ⟨w.heap.size + 1,1,none⟩ = some (.int .i64 f2):=s1
   refine bodyPost_ret (v:=.tuple #[.string ⟨#[]⟩,.agg #[.int .i64 f1,.int .i64 f2]]) ?_ rfl ⟨rfl,?_⟩
   ·first
    | (simp [results,Tryz.results32,go_sem,s0,s1];done)
    | simp [results,Tryz.results32,go_sem,t0,t1]
   ·first | exact hb5 | exact hb5.drew
end Go.Proofs.YtkokdafkjjcgoaaGreatDoor
