/- Depths -/
import Derived.Test.YtkokdafkjjcgoaaGreatDoorMg18
namespace Go.Proofs.YtkokdafkjjcgoaaGreatDoor
theorem fold_max:∀ (l:List Nat) (a:Nat),l.foldl max a = max a (l.foldl max 0)
 | [],a=>by simp
 | x :: l,a=>by
   rw [List.foldl_cons,List.foldl_cons,fold_max l (max a x),fold_max l (max 0 x)]
   omega
theorem fold_rev (l:List Nat):l.reverse.foldl max 0 = l.foldl max 0:=by
 induction l with
 | nil=>rfl
 | cons x l ih=>
   rw [List.reverse_cons,List.foldl_append,ih]
   simp only [List.foldl_cons,List.foldl_nil]
   rw [fold_max l (max 0 x)]
   omega
theorem fold_le {l:List Nat} {B:Nat} (h:∀ d ∈ l,d ≤ B):l.foldl max 0 ≤ B:=by
 induction l with
 | nil=>simp
 | cons x l ih=>
   rw [List.foldl_cons,fold_max l (max 0 x)]
   have:=ih (fun d hd=>h d (List.mem_cons_of_mem _ hd))
   have:=h x List.mem_cons_self
   omega
structure DeepAt (t:List Nd) (i:Nat) (ds:List Nat):Prop where
 rest:deepN t = (deepF (t.drop i) ds).getD 0 0
 goes:∃ st f s,st.length = ds.length ∧ beginsF (t.drop i) i st = some (f,[s])
 le:∀ d ∈ ds,d ≤ i
theorem DeepAt.start {t:List Nd} {fr:List Nat} (h:beginsN t = some fr):DeepAt t 0 []:=by
 unfold beginsN at h
 split at h
 ·rename_i f s hb
  exact ⟨by rw [List.drop_zero];rfl,⟨[],f,s,rfl,by rw [List.drop_zero];exact hb⟩,fun d hd=>by cases hd⟩
 ·cases h
theorem DeepAt.step {t:List Nd} {i:Nat} {ds:List Nat} (h:DeepAt t i ds) (hi:i < t.length):0 ≤ t[i].n ∧ t[i].n.toNat ≤ ds.length ∧ DeepAt t (i + 1) (((ds.take t[i].n.toNat).foldl max 0 + 1) :: ds.drop t[i].n.toNat):=by
 obtain ⟨hr,⟨st,f,s,hl,hg⟩,hle⟩:=h
 rw [List.drop_eq_getElem_cons hi] at hr hg
 rw [beginsF] at hg
 split at hg
 ·cases hg
 ·rename_i hn
  simp only [Option.map_eq_some_iff] at hg
  obtain ⟨⟨g,st2⟩,hg,e⟩:=hg
  obtain ⟨_,rfl⟩:=Prod.mk.inj e
  refine ⟨by omega,by omega,⟨by rw [hr,deepF],⟨_,g,s,?_,hg⟩,fun d hd=>?_⟩⟩
  ·simp [hl]
  ·rcases List.mem_cons.1 hd with rfl | hd
   ·have:=fold_le (fun d hd=>hle d (List.mem_of_mem_take hd)) (l:=ds.take t[i].n.toNat)
    omega
   ·have:=hle d (List.mem_of_mem_drop hd);omega
theorem DeepAt.done {t:List Nd} {ds:List Nat} (h:DeepAt t t.length ds):∃ d,ds = [d] ∧ deepN t = d:=by
 obtain ⟨hr,⟨st,f,s,hl,hg⟩,hle⟩:=h
 rw [List.drop_length] at hr hg
 rw [beginsF] at hg
 obtain ⟨_,rfl⟩:=Prod.mk.inj (Option.some.inj hg)
 obtain ⟨d,rfl⟩:=List.length_eq_one_iff.1 (show ds.length = 1 by rw [← hl];rfl)
 exact ⟨d,rfl,by rw [hr,deepF];rfl⟩
end Go.Proofs.YtkokdafkjjcgoaaGreatDoor
namespace Go.Proofs.YtkokdafkjjcgoaaGreatDoor
open Go.RowKit
structure DeepInv (w:World) (t:List Nd) (wy:World) (g cap i:Nat) (ds:List Nat):Prop where
 at_:DeepAt t i ds
 stk:wy.ownsRow w.heap.size 3 1 (.slice (some ⟨g,0,none⟩) ds.length cap) ds.length (ds.reverse.map natV)
 stl:ds.length ≤ i
 below:Below w.heap.size w wy
theorem DeepInv.cell {w wy:World} {t:List Nd} {g cap i:Nat} {ds:List Nat} (h:DeepInv w t wy g cap i ds) {q m j:Nat} (hq:ds.length = q + m) (hj:j < m):wy.cell? ⟨g,q + j,none⟩ = some (.int .i64 (((ds.take m).reverse.getD j 0:Nat):Int)):=by
 have hl:(ds.take m).reverse.length = m:=by rw [List.length_reverse,List.length_take];omega
 rw [h.stk.cellAt (q + j) (by omega),List.getElem?_map,List.getElem?_reverse (by omega),List.getD_eq_getElem?_getD,List.getElem?_reverse (by rw [List.length_take];omega),List.getElem?_take,List.length_take,show min m ds.length - 1 - j = ds.length - 1 - (q + j) by omega,if_pos (by omega),List.getElem?_eq_getElem (by omega)]
 rfl
theorem DeepInv.node {w wy:World} {t:List Nd} {g cap i:Nat} {ds:List Nat} (h:DeepInv w t wy g cap i ds) {q m:Nat} (hq:ds.length = q + m):wy.ownsRow w.heap.size 3 1 (.slice (some ⟨g,0,none⟩) q cap) q ((ds.drop m).reverse.map natV):=by
 have:=own_take h.stk (m:=q) (by omega)
 rw [Nat.mul_one,← List.map_take,show q = ds.length - m by omega,rev_take ds m (by omega)] at this
 rw [show q = ds.length - m by omega]
 exact this
theorem DeepInv.push {w wy w4 w5:World} {t:List Nd} {g cap i d g5 cp5:Nat} {ds:List Nat} (h:DeepInv w t wy g cap i ds) {q m:Nat} (hq:ds.length = q + m) (hb:Below wy.heap.size wy w4)
 (hown:w5.ownsRow w.heap.size 3 1 (.slice (some ⟨g5,0,none⟩) (q + 1) cp5) (q + 1) ((ds.drop m).reverse.map natV ++ [.int .i64 ((d:Int) + 1)])) (hgrow:w4.grownBy w5 (some g)) (hst:DeepAt t (i + 1) ((d + 1) :: ds.drop m)):DeepInv w t w5 g5 cp5 (i + 1) ((d + 1) :: ds.drop m):=by
 obtain ⟨_,_,hg1,hg2⟩:=own_at h.stk
 have e:((d + 1) :: ds.drop m).length = q + 1:=by simp;omega
 have:=h.stl
 refine ⟨hst,?_,by rw [e];omega,(h.below.trans (hb.mono h.below.size)).grown hgrow (Nat.le_trans h.below.size hb.size) (fun k hk=>by simp only [Option.some.injEq] at hk;omega)⟩
 rw [e,List.reverse_cons,List.map_append]
 exact hown
theorem DeepInv.belowed {w wy w2:World} {t:List Nd} {g cap i:Nat} {ds:List Nat} (h:DeepInv w t wy g cap i ds) (hb:Below wy.heap.size wy w2):DeepInv w t w2 g cap i ds:=⟨h.at_,h.stk.belowed hb,h.stl,h.below.trans (hb.mono h.below.size)⟩
theorem fold_next (l:List Nat) {j:Nat} (hj:j < l.length):(l.take (j + 1)).foldl max 0 = max ((l.take j).foldl max 0) (l.getD j 0):=by
 rw [List.take_succ_eq_append_getElem hj,List.foldl_append,List.getD_eq_getElem?_getD,List.getElem?_eq_getElem hj]
 rfl
set_option maxRecDepth 100000 in
set_option maxHeartbeats 8000000 in
theorem treeDeep_ok (a:Option Addr) (cap:Nat) (t:List Nd) {fr:List Nat} (w:World) (hI:IsNds w.heap.size w a t) (hl:t.length ≤ 4096) (hb:beginsN t = some fr) (_hOk:∀ x ∈ t,NdOk x) :
 Calls Tryz.prog 85 #[.slice a t.length cap] w fun e w'=>e = .returned (.int .i64 (deepN t:Int)) ∧ Below w.heap.size w w':=by
 have HI:=Hd hI
 have hli:(t.length:Int) ≤ 4096:=by omega
 obtain ⟨i0,hi,hz0,hz1,hz2⟩:=info_parts infoInt
 have HI0:=Hd (And.intro hi (And.intro hz0 (And.intro hz1 hz2)))
 have HB0:=Hd (show DeepInv w t (w.alloc (.cells #[] 3)) w.heap.size 0 0 [] from ⟨DeepAt.start hb,own_nil9 (Nat.le_refl _),Nat.le_refl _,ba1 _ _⟩)
 clear hi hz0 hz1 hz2 hI hb
 go_enter Tryz.func85,Tryz.ntmps85
 go_wp2_with fail
 go_loopg [3,13] t.length (fun m v3 v13 wy=>∃ (i g' c':Nat) (ds:List Nat),i ≤ t.length ∧ i + m = t.length ∧ v13 = .int .i64 (i:Int) ∧ v3 = .slice (some ⟨g',0,none⟩) ds.length c' ∧ Hid (DeepInv w t wy g' c' i ds))
 case atStart=>exact ⟨0,_,_,[],by omega,by omega,rfl,rfl,HB0⟩
 case round=>
  obtain ⟨i,g',c',ds,hi,him,rfl,rfl,HG⟩:=hrel
  have hdl:(ds.length:Int) ≤ 4096:=by have:=HG.out.stl;omega
  by_cases hlt:i < t.length
  ·obtain ⟨b,off,ha,hbl,x0,x1,x2,x3,x4,x5⟩:=nds_at HI.out hlt
   subst ha
   rw [← HG.out.below.cell hbl] at x0 x1 x2 x3 x4 x5
   obtain ⟨hn0,hnl,hst⟩:=HG.out.at_.step hlt
   have HSt:=Hd hst
   clear hst
   generalize t[i]'hlt = x at *
   obtain ⟨kk,xn,pp,ii,s,ty⟩:=x
   simp only at x0 x1 x2 x3 x4 x5 hn0 hnl HSt
   obtain ⟨m,rfl⟩:∃ n:Nat,xn = (n:Int):=⟨xn.toNat,by omega⟩
   go_upto_region 5 with fail
   have hx2:(wr.alloc (ndObj ⟨kk,(m:Int),pp,ii,s,ty⟩)).heap[wr.heap.size]? = some (.cells #[.int .i64 kk,.int .i64 (m:Int),.int .i64 pp,.int .i64 ii,.string s,.string ty] 36 (0,0)):=heap_alloc_new _ _
   have HG2:=Hd (HG.out.belowed (ba1 wr (ndObj ⟨kk,(m:Int),pp,ii,s,ty⟩)))
   simp only [ndObj] at hx2 HG2
   generalize wr.alloc (.cells #[.int .i64 kk,.int .i64 (m:Int),.int .i64 pp,.int .i64 ii,.string s,.string ty] 36) = w2 at *
   obtain ⟨⟨_,d1,_⟩,_⟩:=six_block hx2
   clear x0 x1 x2 x3 x4 x5 hx2 HG
   have HG:=HG2
   clear HG2
   rw [Int.toNat_natCast] at hnl HSt
   obtain ⟨q,hq⟩:∃ q,ds.length = q + m:=⟨ds.length - m,by omega⟩
   have hqc:q ≤ c':=by have:=(own_at HG.out.stk).1;omega
   have how:=HG.out.node hq
   obtain ⟨L,hL⟩:∃ L,L = (ds.drop m).reverse.map natV:=⟨_,rfl⟩
   rw [← hL] at how
   have HOw:=Hd how
   have HL:=Hd hL
   clear how hL
   obtain ⟨M,hM⟩:∃ M,M = (ds.take m).reverse:=⟨_,rfl⟩
   have hMl:M.length = m:=by rw [hM,List.length_reverse,List.length_take];omega
   have HM:=Hd hM
   clear hM
   by_cases hc:c' = q
   ·have hm0:m = 0:=by have:=(own_at HG.out.stk).1;omega
    obtain rfl:q = c':=hc.symm
    go_wp2_with fail
    go_loopg [7,26] m (fun r v7 v26 wy=>∃ (p d:Nat),p + r = m ∧ v26 = .int .i64 (p:Int) ∧ v7 = .int .i64 (d:Int) ∧ Hid (d = (M.take p).foldl max 0) ∧ wy = w2)
    case atStart=>exact ⟨0,0,by omega,rfl,rfl,Hd (by simp),rfl⟩
    case round=>
     obtain ⟨p,d,hpr,rfl,rfl,HD,rfl⟩:=hrel
     ·obtain rfl:p = m:=by omega
      have hd:d = (ds.take p).foldl max 0:=by
       rw [HD.out,List.take_of_length_le (show M.length ≤ p by omega),HM.out,fold_rev]
      rw [← hd] at HSt
      have hd4:(d:Int) ≤ 4096:=by have:=HSt.out.le (d + 1) List.mem_cons_self;omega
      have HDl:=Hd (show 0 + 1 ≤ 1 ∧ q + 1 ≤ maxLen ∧ (q + 1) * 8 ≤ 140737488355328 from ⟨by omega,by unfold maxLen;omega,by omega⟩)
      clear hd
      go_wp2_with (at_builtin;go_loud (refine wpList_append_lies _ rfl _ _ _ rfl w.heap.size 3 i0 (.int .i64 0) 1 8 Tryz.underlying27 HI0.out.1 HI0.out.2.1 HI0.out.2.2.1 HI0.out.2.2.2 rfl (by decide) (.slice (some ⟨g',0,none⟩) q q) q L rfl (HOw.out.belowed (ba1 _ _)) ⟨_,0,none⟩ 1 1 [.int .i64 ((d:Int) + 1)] rfl rfl (World.news_of_block (cs:=#[.int .i64 ((d:Int) + 1)]) (heap_alloc_new _ _)) (by simp [Value.oneCell']) (by decide) HDl.out.2.1 HDl.out.2.2 (Nat.le_trans HG.out.below.size (ba1 _ _).size) _ rfl ?_))
      intro g5 cp5 w5 hown5 hgrow5 hat5 hlt5
      rw [HL.out] at hown5
      have HN5:=Hd (HG.out.push hq (ba1 _ _) hown5 hgrow5 HSt.out)
      clear hown5 hgrow5 hat5 hlt5
      go_wp2_with fail
      go_roundg (t.length - (i + 1))
      case measure=>omega
      case rel=>exact ⟨i + 1,g5,cp5,(d + 1) :: ds.drop p,by omega,by omega,by rw [Int.natCast_add];rfl,by rw [List.length_cons,List.length_drop,show ds.length - p = q by omega],HN5⟩
   ·have hc2:q < c':=by omega
    go_wp2_with fail
    go_loopg [7,26] m (fun r v7 v26 wy=>∃ (p d:Nat),p + r = m ∧ v26 = .int .i64 (p:Int) ∧ v7 = .int .i64 (d:Int) ∧ Hid (d = (M.take p).foldl max 0) ∧ wy = w2)
    case atStart=>exact ⟨0,0,by omega,rfl,rfl,Hd (by simp),rfl⟩
    case round=>
     obtain ⟨p,d,hpr,rfl,rfl,HD,rfl⟩:=hrel
     by_cases hpl:p < m
     ·have c2:=HG.out.cell hq hpl
      rw [← HM.out] at c2
      have HF:=Hd (fold_next M (show p < M.length by omega))
      obtain ⟨z,hz⟩:∃ z,z = M.getD p 0:=⟨_,rfl⟩
      rw [← hz] at c2 HF
      clear hz
      have h1:(p:Int) < (m:Int):=by omega
      go_wp2_with fail
      go_roundg (m - (p + 1))
      case measure=>omega
      case rel=>exact ⟨p + 1,max d z,by omega,by rw [Int.natCast_add];rfl,by rw [show max (d:Int) (z:Int) = ((max d z:Nat):Int) by omega],Hd (by rw [HD.out,HF.out]),rfl⟩
     ·obtain rfl:p = m:=by omega
      have hd:d = (ds.take p).foldl max 0:=by
       rw [HD.out,List.take_of_length_le (show M.length ≤ p by omega),HM.out,fold_rev]
      rw [← hd] at HSt
      have hd4:(d:Int) ≤ 4096:=by have:=HSt.out.le (d + 1) List.mem_cons_self;omega
      have HDl:=Hd (show 0 + 1 ≤ 1 ∧ q + 1 ≤ maxLen ∧ (q + 1) * 8 ≤ 140737488355328 from ⟨by omega,by unfold maxLen;omega,by omega⟩)
      clear hd
      go_wp2_with (at_builtin;go_loud (refine wpList_append_lies _ rfl _ _ _ rfl w.heap.size 3 i0 (.int .i64 0) 1 8 Tryz.underlying27 HI0.out.1 HI0.out.2.1 HI0.out.2.2.1 HI0.out.2.2.2 rfl (by decide) (.slice (some ⟨g',0,none⟩) q c') q L rfl (HOw.out.belowed (ba1 _ _)) ⟨_,0,none⟩ 1 1 [.int .i64 ((d:Int) + 1)] rfl rfl (World.news_of_block (cs:=#[.int .i64 ((d:Int) + 1)]) (heap_alloc_new _ _)) (by simp [Value.oneCell']) (by decide) HDl.out.2.1 HDl.out.2.2 (Nat.le_trans HG.out.below.size (ba1 _ _).size) _ rfl ?_))
      intro g5 cp5 w5 hown5 hgrow5 hat5 hlt5
      rw [HL.out] at hown5
      have HN5:=Hd (HG.out.push hq (ba1 _ _) hown5 hgrow5 HSt.out)
      clear hown5 hgrow5 hat5 hlt5
      go_wp2_with fail
      go_roundg (t.length - (i + 1))
      case measure=>omega
      case rel=>exact ⟨i + 1,g5,cp5,(d + 1) :: ds.drop p,by omega,by omega,by rw [Int.natCast_add];rfl,by rw [List.length_cons,List.length_drop,show ds.length - p = q by omega],HN5⟩
  ·obtain rfl:i = t.length:=by omega
   obtain ⟨d,rfl,hd⟩:=HG.out.at_.done
   have c0:=HG.out.stk.cellAt 0 (by simp)
   simp only [List.reverse_singleton,List.map_cons,List.map_nil,List.getElem?_cons_zero,natV] at c0
   go_wp2_with fail
   go_ret
   exact ⟨by rw [hd];rfl,HG.out.below⟩
end Go.Proofs.YtkokdafkjjcgoaaGreatDoor
