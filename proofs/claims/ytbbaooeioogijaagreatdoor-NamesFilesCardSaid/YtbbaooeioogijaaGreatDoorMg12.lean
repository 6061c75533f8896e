/- Where parts begin: the reference. · The parts of a node: the program, the reference. -/
import Derived.Test.YtbbaooeioogijaaGreatDoorMg11
namespace Go.Proofs.YtbbaooeioogijaaGreatDoor
open Go.RowKit
theorem ba1 (w:World) (o:Obj):Below w.heap.size w (w.alloc o):=(Below.refl _ _).alloc (Nat.le_refl _) _
structure RBegInv (w:World) (t:List Nd) (wy:World) (f fc g cap i:Nat) (pre st:List Nat):Prop where
 rest:beginsF t 0 [] = (beginsF (t.drop i) i st).map fun r=>(pre ++ r.1,r.2)
 len:pre.length = i
 row:wy.ownsRow w.heap.size 3 1 (.slice (some ⟨f,0,none⟩) i fc) i (pre.map natV)
 stk:wy.ownsRow w.heap.size 3 1 (.slice (some ⟨g,0,none⟩) st.length cap) st.length (st.reverse.map natV)
 apart:g ≠ f
 stl:st.length ≤ i
 below:Below w.heap.size w wy
theorem own_at {w:World} {B n g cap size:Nat} {T:TypeId} {xs:List Value} (h:w.ownsRow B T size (.slice (some ⟨g,0,none⟩) n cap) n xs):n ≤ cap ∧ cap ≤ maxLen ∧ B ≤ g ∧ g < w.heap.size:=by
 rcases h.2 with ⟨h,_⟩ | ⟨q,_,_,h',hb,hq,h1,h2,_⟩
 ·simp at h
 ·simp only [Value.slice.injEq,Option.some.injEq,Addr.mk.injEq,and_true,true_and] at h'
  exact ⟨by rw [h'.2];exact h1,by rw [h'.2];exact h2,by rw [h'.1];exact hb,by rw [h'.1];exact lt_of_heap hq⟩
theorem RBegInv.top {w wy:World} {t:List Nd} {f fc g cap i:Nat} {pre st:List Nat} (h:RBegInv w t wy f fc g cap i pre st) {q m:Nat} (hq:st.length = q + m) (hm:0 < m):wy.cell? ⟨g,q,none⟩ = some (.int .i64 ((st.getD (m - 1) 0:Nat):Int)):=by
 rw [h.stk.cellAt q (by omega),List.getElem?_map,List.getElem?_reverse (by omega),show st.length - 1 - q = m - 1 by omega,List.getElem?_eq_getElem (by omega)]
 simp [natV,List.getD_eq_getElem?_getD,List.getElem?_eq_getElem (show m - 1 < st.length by omega)]
theorem RBegInv.node {w wy:World} {t:List Nd} {f fc g cap i:Nat} {pre st:List Nat} (h:RBegInv w t wy f fc g cap i pre st) {q m:Nat} (hq:st.length = q + m):wy.ownsRow w.heap.size 3 1 (.slice (some ⟨g,0,none⟩) q cap) q ((st.drop m).reverse.map natV):=by
 have:=own_take h.stk (m:=q) (by omega)
 rw [Nat.mul_one,← List.map_take,show q = st.length - m by omega,rev_take st m (by omega)] at this
 rw [show q = st.length - m by omega]
 exact this
structure RBegMid (w:World) (t:List Nd) (wy:World) (f fc g cap i a:Nat) (pre st:List Nat):Prop where
 len:pre.length = i
 row:wy.ownsRow w.heap.size 3 1 (.slice (some ⟨f,0,none⟩) i fc) i (pre.map natV)
 stk:wy.ownsRow w.heap.size 3 1 (.slice (some ⟨g,0,none⟩) (a :: st).length cap) (a :: st).length ((a :: st).reverse.map natV)
 apart:g ≠ f
 below:Below w.heap.size w wy
theorem RBegInv.push {w wy w4 w5:World} {t:List Nd} {f fc g cap i a g5 cp5:Nat} {pre st:List Nat} (h:RBegInv w t wy f fc g cap i pre st) {q m:Nat} (hq:st.length = q + m) (hb:Below wy.heap.size wy w4)
 (hown:w5.ownsRow w.heap.size 3 1 (.slice (some ⟨g5,0,none⟩) (q + 1) cp5) (q + 1) ((st.drop m).reverse.map natV ++ [.int .i64 (a:Int)])) (hgrow:w4.grownBy w5 (some g)) (hat:some g = some g5 ∨ g5 = w4.heap.size):RBegMid w t w5 f fc g5 cp5 i a pre (st.drop m):=by
 obtain ⟨_,_,hf1,hf2⟩:=own_at h.row
 obtain ⟨_,_,hg1,hg2⟩:=own_at h.stk
 have e:(a :: st.drop m).length = q + 1:=by simp;omega
 refine ⟨h.len,(h.row.belowed hb).kept hgrow (.inr (by simp [Value.ownBlock];exact fun h'=>h.apart h'.symm)),?_,?_,(h.below.trans (hb.mono h.below.size)).grown hgrow (Nat.le_trans h.below.size hb.size) (fun k hk=>by simp only [Option.some.injEq] at hk;omega)⟩
 ·rw [e,List.reverse_cons,List.map_append]
  exact hown
 ·rcases hat with h' | h'
  ·have:=Option.some.inj h'
   rw [← this];exact h.apart
  ·have:=hb.size
   omega
theorem RBegMid.push {w wy w4 w5:World} {t:List Nd} {f fc g cap i a f5 cp5:Nat} {pre st:List Nat} (h:RBegMid w t wy f fc g cap i a pre st) (hst:st.length ≤ i) (hb:Below wy.heap.size wy w4)
 (hown:w5.ownsRow w.heap.size 3 1 (.slice (some ⟨f5,0,none⟩) (i + 1) cp5) (i + 1) (pre.map natV ++ [.int .i64 (a:Int)])) (hgrow:w4.grownBy w5 (some f)) (hat:some f = some f5 ∨ f5 = w4.heap.size)
 (hrest:beginsF t 0 [] = (beginsF (t.drop (i + 1)) (i + 1) (a :: st)).map fun r=>(pre ++ [a] ++ r.1,r.2)):RBegInv w t w5 f5 cp5 g cap (i + 1) (pre ++ [a]) (a :: st):=by
 obtain ⟨_,_,hf1,hf2⟩:=own_at h.row
 obtain ⟨_,_,hg1,hg2⟩:=own_at h.stk
 refine ⟨hrest,by rw [List.length_append,h.len];rfl,by rw [List.map_append];exact hown,(h.stk.belowed hb).kept hgrow (.inr (by simp [Value.ownBlock];exact h.apart)),?_,by rw [List.length_cons];omega,(h.below.trans (hb.mono h.below.size)).grown hgrow (Nat.le_trans h.below.size hb.size) (fun k hk=>by simp only [Option.some.injEq] at hk;omega)⟩
 rcases hat with h' | h'
 ·have:=Option.some.inj h'
  rw [← this];exact h.apart
 ·have:=hb.size
  omega
set_option maxRecDepth 100000 in
set_option maxHeartbeats 8000000 in
theorem refBegins_ok (a:Option Addr) (cap:Nat) (t:List Nd) (w:World) (hI:IsNds w.heap.size w a t) (hl:t.length ≤ 4096) (hOk:∀ x ∈ t,NdOk x) :
 Calls Tryz.prog 52 #[.slice a t.length cap] w (BegEnd t w):=by
 have HI:=Hd hI
 have HOk:=Hd hOk
 have hli:(t.length:Int) ≤ 4096:=by omega
 obtain ⟨i0,hi,hz0,hz1,hz2⟩:=info_parts infoInt
 have HI0:=Hd (And.intro hi (And.intro hz0 (And.intro hz1 hz2)))
 clear hi hz0 hz1 hz2 hI hOk
 have HB0:=Hd (show RBegInv w t ((w.alloc (.cells #[] 3)).alloc (.cells #[] 3)) w.heap.size 0 (w.heap.size + 1) 0 0 [] [] from ⟨by simp,rfl,(own_nil9 (Nat.le_refl _)).belowed ((Below.refl _ _).alloc (Nat.le_refl _) _),(by have:=own_nil9 (w:=w.alloc (.cells #[] 3)) (base:=w.heap.size) (T:=3) (by simp);simpa using this),by omega,Nat.le_refl _,((Below.refl _ _).alloc (Nat.le_refl _) _).alloc (by simp) _⟩)
 go_enter Tryz.func52,Tryz.ntmps52
 go_wp2_with fail
 go_loopg [4,5,6] t.length (fun m v4 v5 v6 wy=>∃ (i f' fc' g' c':Nat) (pre st:List Nat),i ≤ t.length ∧ i + m = t.length ∧ v6 = .int .i64 (i:Int) ∧ v4 = .slice (some ⟨f',0,none⟩) i fc' ∧ v5 = .slice (some ⟨g',0,none⟩) st.length c' ∧ Hid (RBegInv w t wy f' fc' g' c' i pre st))
 case atStart=>exact ⟨0,_,_,_,_,[],[],by omega,by omega,rfl,rfl,by simp,HB0⟩
 case round=>
  obtain ⟨i,f',fc',g',c',pre,st,hi,him,rfl,rfl,rfl,HG⟩:=hrel
  have hstl:(st.length:Int) ≤ 4096:=by have:=HG.out.stl;omega
  by_cases hlt:i < t.length
  ·obtain ⟨b,off,ha,hbl,x0,x1,x2,x3,x4,x5⟩:=nds_at HI.out hlt
   subst ha
   rw [← HG.out.below.cell hbl] at x1
   clear x0 x2 x3 x4 x5
   have HDr:=Hd (show t.drop i = t[i] :: t.drop (i + 1) from List.drop_eq_getElem_cons hlt)
   obtain ⟨_,⟨hn0,hn1⟩,_⟩:=HOk.out _ (List.getElem_mem hlt)
   generalize t[i]'hlt = x at *
   obtain ⟨kk,n,p,ii,s,ty⟩:=x
   simp only at x1 hn0 hn1
   by_cases hneg:n < 0
   ·have t1:decide (n < 0) = true:=by simpa using hneg
    go_wp2_with fail
    go_ret2
    exact begEnd_no (begins_stop HG.out.rest HDr.out (.inl hneg)) HG.out.below
   ·have t1:decide (n < 0) = false:=by simpa using hneg
    obtain ⟨m,rfl⟩:∃ m:Nat,n = (m:Int):=⟨n.toNat,by omega⟩
    by_cases hm:m ≤ st.length
    ·obtain ⟨q,hq⟩:∃ q,st.length = q + m:=⟨st.length - m,by omega⟩
     have hqc:q ≤ c':=by have:=(own_at HG.out.stk).1;omega
     have how:=HG.out.node hq
     obtain ⟨L,hL⟩:∃ L,L = (st.drop m).reverse.map natV:=⟨_,rfl⟩
     rw [← hL] at how
     have HOw:=Hd how
     have HL:=Hd hL
     clear how hL
     by_cases hm0:0 < m
     ·have t3:decide (0 < (m:Int)) = true:=by simpa using hm0
      have HSt:=Hd (begins_step (a:=st.getD (m - 1) 0) HG.out.rest HDr.out (by simp) (by simp;omega) (by simp [hm0]))
      simp only [Int.toNat_natCast] at HSt
      have htop:=HG.out.top hq hm0
      generalize st.getD (m - 1) 0 = av at *
      go_wp2_with (at_builtin;go_loud (refine wpList_append_lies _ rfl _ _ _ rfl w.heap.size 3 i0 (.int .i64 0) 1 8 Tryz.underlying124 HI0.out.1 HI0.out.2.1 HI0.out.2.2.1 HI0.out.2.2.2 rfl (by decide) (.slice (some ⟨g',0,none⟩) q c') q L rfl (HOw.out.belowed (ba1 _ _)) ⟨_,0,none⟩ 1 1 [.int .i64 (av:Int)] rfl rfl (World.news_of_block (cs:=#[.int .i64 (av:Int)]) (heap_alloc_new _ _)) (by simp [Value.oneCell']) (by decide) (by unfold maxLen;omega) (by omega) (Nat.le_trans HG.out.below.size (ba1 _ _).size) _ rfl ?_))
      intro g5 cp5 w5 hown5 hgrow5 hat5 hlt5
      rw [HL.out] at hown5
      have HM5:=Hd (HG.out.push hq (ba1 _ _) hown5 hgrow5 (by rcases hat5 with h | h;exact .inl h;exact .inr (by rw [h];simp)))
      clear hown5 hgrow5 hat5 hlt5
      go_wp2_with (at_builtin;go_loud (refine wpList_append_lies _ rfl _ _ _ rfl w.heap.size 3 i0 (.int .i64 0) 1 8 Tryz.underlying124 HI0.out.1 HI0.out.2.1 HI0.out.2.2.1 HI0.out.2.2.2 rfl (by decide) (.slice (some ⟨f',0,none⟩) i fc') i (pre.map natV) rfl (HM5.out.row.belowed (ba1 _ _)) ⟨_,0,none⟩ 1 1 [.int .i64 (av:Int)] rfl rfl (World.news_of_block (cs:=#[.int .i64 (av:Int)]) (heap_alloc_new _ _)) (by simp [Value.oneCell']) (by decide) (by unfold maxLen;omega) (by omega) (Nat.le_trans HM5.out.below.size (ba1 _ _).size) _ rfl ?_))
      intro f6 cp6 w6 hown6 hgrow6 hat6 hlt6
      have HN6:=Hd (HM5.out.push (by have:=HG.out.stl;rw [List.length_drop];omega) (ba1 _ _) hown6 hgrow6 (by rcases hat6 with h | h;exact .inl h;exact .inr (by rw [h];simp)) HSt.out)
      clear hown6 hgrow6 hat6 hlt6
      go_wp2_with fail
      go_roundg (t.length - (i + 1))
      case measure=>omega
      case rel=>exact ⟨i + 1,f6,cp6,g5,cp5,pre ++ [av],av :: st.drop m,by omega,by omega,by rw [Int.natCast_add];rfl,rfl,by rw [List.length_cons,List.length_drop,show st.length - m = q by omega],HN6⟩
     ·have t3:decide (0 < (m:Int)) = false:=by simp;omega
      have HSt:=Hd (begins_step (a:=i) HG.out.rest HDr.out (by simp) (by simp;omega) (by simp [hm0]))
      simp only [Int.toNat_natCast] at HSt
      go_wp2_with (at_builtin;go_loud (refine wpList_append_lies _ rfl _ _ _ rfl w.heap.size 3 i0 (.int .i64 0) 1 8 Tryz.underlying124 HI0.out.1 HI0.out.2.1 HI0.out.2.2.1 HI0.out.2.2.2 rfl (by decide) (.slice (some ⟨g',0,none⟩) q c') q L rfl (HOw.out.belowed (ba1 _ _)) ⟨_,0,none⟩ 1 1 [.int .i64 (i:Int)] rfl rfl (World.news_of_block (cs:=#[.int .i64 (i:Int)]) (heap_alloc_new _ _)) (by simp [Value.oneCell']) (by decide) (by unfold maxLen;omega) (by omega) (Nat.le_trans HG.out.below.size (ba1 _ _).size) _ rfl ?_))
      intro g5 cp5 w5 hown5 hgrow5 hat5 hlt5
      rw [HL.out] at hown5
      have HM5:=Hd (HG.out.push hq (ba1 _ _) hown5 hgrow5 (by rcases hat5 with h | h;exact .inl h;exact .inr (by rw [h];simp)))
      clear hown5 hgrow5 hat5 hlt5
      go_wp2_with (at_builtin;go_loud (refine wpList_append_lies _ rfl _ _ _ rfl w.heap.size 3 i0 (.int .i64 0) 1 8 Tryz.underlying124 HI0.out.1 HI0.out.2.1 HI0.out.2.2.1 HI0.out.2.2.2 rfl (by decide) (.slice (some ⟨f',0,none⟩) i fc') i (pre.map natV) rfl (HM5.out.row.belowed (ba1 _ _)) ⟨_,0,none⟩ 1 1 [.int .i64 (i:Int)] rfl rfl (World.news_of_block (cs:=#[.int .i64 (i:Int)]) (heap_alloc_new _ _)) (by simp [Value.oneCell']) (by decide) (by unfold maxLen;omega) (by omega) (Nat.le_trans HM5.out.below.size (ba1 _ _).size) _ rfl ?_))
      intro f6 cp6 w6 hown6 hgrow6 hat6 hlt6
      have HN6:=Hd (HM5.out.push (by have:=HG.out.stl;rw [List.length_drop];omega) (ba1 _ _) hown6 hgrow6 (by rcases hat6 with h | h;exact .inl h;exact .inr (by rw [h];simp)) HSt.out)
      clear hown6 hgrow6 hat6 hlt6
      go_wp2_with fail
      go_roundg (t.length - (i + 1))
      case measure=>omega
      case rel=>exact ⟨i + 1,f6,cp6,g5,cp5,pre ++ [i],i :: st.drop m,by omega,by omega,by rw [Int.natCast_add];rfl,rfl,by rw [List.length_cons,List.length_drop,show st.length - m = q by omega],HN6⟩
    ·have t2:decide ((st.length:Int) < (m:Int)) = true:=by simp;omega
     go_wp2_with fail
     go_ret2
     exact begEnd_no (begins_stop HG.out.rest HDr.out (.inr (by simp;omega))) HG.out.below
  ·obtain rfl:i = t.length:=by omega
   have HR:=Hd (show NatRow wr w.heap.size (.slice (some ⟨f',0,none⟩) t.length fc') pre from by unfold NatRow;rw [HG.out.len];exact HG.out.row)
   by_cases h1:st.length = 1
   ·have t2:((st.length:Int) == 1) = true:=by rw [h1];rfl
    go_wp2_with fail
    go_ret2
    exact begEnd_yes ((begins_done HG.out.rest).1 h1) HR.out HG.out.below
   ·have t2:((st.length:Int) == 1) = false:=by simp;omega
    go_wp2_with fail
    go_ret2
    exact begEnd_no ((begins_done HG.out.rest).2 h1) HG.out.below
end Go.Proofs.YtbbaooeioogijaaGreatDoor
namespace Go.Proofs.YtbbaooeioogijaaGreatDoor
open Go.RowKit
def natCells (n:Nat):List Value:=[natV n]
theorem natCells_len (n:Nat):(natCells n).length = 1:=rfl
theorem flat_nats (L:List Nat):L.flatMap natCells = L.map natV:=by
 induction L with
 | nil=>rfl
 | cons x L ih=>rw [List.flatMap_cons,ih];rfl
abbrev IsNats (B:Nat) (w:World) (a:Option Addr) (L:List Nat):Prop:=IsSl 1 natCells B w a L
theorem NatRow.is {w:World} {base:Nat} {v:Value} {L:List Nat} (h:NatRow w base v L):∃ a cap,v = .slice a L.length cap ∧ IsNats w.heap.size w a L ∧ (a = none → L = [] ∧ cap = 0):=by
 unfold NatRow at h
 rw [← flat_nats] at h
 exact own_sl natCells_len h rfl
theorem nats_at {B:Nat} {w:World} {a:Option Addr} {L:List Nat} (h:IsNats B w a L) {i:Nat} (hi:i < L.length):∃ b off,a = some ⟨b,off,none⟩ ∧ b < B ∧ w.cell? ⟨b,off + i,none⟩ = some (.int .i64 (L[i]:Int)):=by
 obtain ⟨b,off,e,hlt,hc⟩:=h (fun e=>by rw [e] at hi;simp at hi)
 have:=hc i _ (List.getElem?_eq_getElem hi) 0 _ rfl
 rw [Nat.mul_one,Nat.add_zero] at this
 exact ⟨b,off,e,hlt,this⟩
theorem Back.le {fr:List Nat}:∀ {n e:Nat},Back fr n e → n ≤ e
 | 0,_,_=>Nat.zero_le _
 | n + 1,e,⟨h1,h2,h3⟩=>by have:=h3.le;omega
structure PartInv (w:World) (fr:List Nat) (n k:Nat) (wy:World) (r e:Nat) (tail:List Nat):Prop where
 rest:partsE fr n k = partsE fr r e ++ tail
 len:r + tail.length = n
 back:Back fr r e
 le:e ≤ k
 row:∃ ys,wy.ownsRow w.heap.size 3 1 (.slice (some ⟨w.heap.size,0,none⟩) n n) n ys ∧ ∀ (i:Nat) x,tail[i]? = some x → ys[r + i]? = some (natV x)
 below:Below w.heap.size w wy
theorem PartInv.cell {w wy:World} {fr:List Nat} {n k r e:Nat} {tail:List Nat} (h:PartInv w fr n k wy (r + 1) e tail):(∃ u,wy.cell? ⟨w.heap.size,r,none⟩ = some u) ∧ wy.frozen? ⟨w.heap.size,r,none⟩ = false:=by
 obtain ⟨ys,ho,_⟩:=h.row
 have hl:=ho.1
 have:=h.len
 refine ⟨?_,ho.frozenAt r⟩
 rw [ho.cellAt r (by omega)]
 exact ⟨_,List.getElem?_eq_getElem (by omega)⟩
theorem PartInv.next {w wy:World} {fr:List Nat} {n k r d:Nat} {tail:List Nat} (h:PartInv w fr n k wy (r + 1) (d + 1) tail):PartInv w fr n k (wy.setCell ⟨w.heap.size,r,none⟩ (.int .i64 (d:Int))) r (fr.getD d 0) (d :: tail):=by
 obtain ⟨ys,ho,hp⟩:=h.row
 obtain ⟨hb1,hb2,hb3⟩:=h.back
 rw [Nat.add_sub_cancel] at hb2 hb3
 have hl:=ho.1
 have hlen:=h.len
 refine ⟨by rw [h.rest,partsE,List.append_assoc,Nat.add_sub_cancel];rfl,by rw [List.length_cons];omega,hb3,by have:=h.le;omega,⟨_,(ho.stored r (natV d)).1,fun i x hx=>?_⟩,h.below.setCell (Nat.le_refl _) _⟩
 cases i with
 | zero=>
   obtain rfl:=Option.some.inj hx
   rw [Nat.add_zero,List.getElem?_set_self (by omega)]
 | succ i=>
   rw [List.getElem?_set_ne (by omega),show r + (i + 1) = r + 1 + i by omega]
   exact hp i x (by simpa using hx)
theorem PartInv.done {w wy:World} {fr:List Nat} {n k e:Nat} {tail:List Nat} (h:PartInv w fr n k wy 0 e tail):NatRow wy w.heap.size (.slice (some ⟨w.heap.size,0,none⟩) n n) (partsE fr n k):=by
 obtain ⟨ys,ho,hp⟩:=h.row
 have hl:=ho.1
 have hlen:=h.len
 have hr:=h.rest
 rw [partsE,List.nil_append] at hr
 have:ys = tail.map natV:=by
  apply List.ext_getElem?
  intro j
  rw [List.getElem?_map]
  rcases hx:tail[j]? with _ | x
  ·rw [List.getElem?_eq_none_iff] at hx
   rw [List.getElem?_eq_none (by omega)];rfl
  ·have:=hp j x hx
   rw [Nat.zero_add] at this
   rw [this];rfl
 subst this
 unfold NatRow
 rw [hr,show tail.length = n by omega]
 exact ho
theorem own_le9 {w:World} {base base':Nat} {e:TypeId} {size:Nat} {v:Value} {n:Nat} {xs:List Value} (h:w.ownsRow base e size v n xs) (hb:base' ≤ base):w.ownsRow base' e size v n xs:=
 ⟨h.1,h.2.imp id fun ⟨g,cap,cur,h1,h2,h3⟩=>⟨g,cap,cur,h1,Nat.le_trans hb h2,h3⟩⟩
def PartEnd (L:List Nat) (w:World) (e:Ending) (w':World):Prop:=(∃ v,e = .returned v ∧ NatRow w' w.heap.size v L) ∧ Below w.heap.size w w'
theorem partEnd {L:List Nat} {w w1 w':World} {v:Value} (h:NatRow w' w1.heap.size v L) (h1:Below w.heap.size w w1) (hb:Below w1.heap.size w1 w'):PartEnd L w (.returned v) w':=
 ⟨⟨v,rfl,own_le9 h h1.size⟩,h1.trans (hb.mono h1.size)⟩
set_option maxRecDepth 100000 in
set_option maxHeartbeats 8000000 in
theorem refTparts_ok (a:Option Addr) (cap:Nat) (t:List Nd) (b:Option Addr) (capb:Nat) (fr:List Nat) (w:World) (hI:IsNds w.heap.size w a t) (hF:IsNats w.heap.size w b fr) (hl:t.length ≤ 4096) (hf:Formed t fr) (k:Nat) (hk:k < t.length) :
 Calls Tryz.prog 78 #[.slice a t.length cap,.slice b fr.length capb,.int .i64 (k:Int)] w (PartEnd (partsAt t fr k) w):=by
 obtain ⟨hn0,hbk,_⟩:=hf.node k _ (List.getElem?_eq_getElem hk)
 rw [partsAt_is (List.getElem?_eq_getElem hk)]
 obtain ⟨ba,off,ha,hbl,x0,x1,x2,x3,x4,x5⟩:=nds_at hI hk
 subst ha
 clear x0 x2 x3 x4 x5
 have hfl:fr.length = t.length:=hf.len
 have HF:=Hd hF
 clear hF hf hI
 generalize t[k].n = xn at *
 obtain ⟨n,rfl⟩:∃ n:Nat,xn = (n:Int):=⟨xn.toNat,by omega⟩
 rw [Int.toNat_natCast] at *
 have hnk:=hbk.le
 have HBk:=Hd hbk
 obtain ⟨i0,hi,hz0,hz1,hz2⟩:=info_parts infoInt
 have HI0:=Hd (And.intro hi (And.intro hz0 (And.intro hz1 hz2)))
 have HNum:=Hd (show i0.bytes * n ≤ 281474976710656 ∧ n ≤ maxLen from ⟨by rw [hz2];omega,by unfold maxLen;omega⟩)
 clear hi hz0 hz1 hz2 hbk hn0
 go_enter Tryz.func78,Tryz.ntmps78
 go_wp2_with (at_make;go_loud (refine wpList_make_full _ rfl _ _ _ rfl w.heap.size 3 i0 (.int .i64 0) 1 Tryz.underlying124 HI0.out.1 HI0.out.2.1 HI0.out.2.2.1 .i64 .i64 (n:Int) (n:Int) n rfl rfl rfl rfl HNum.out.1 HNum.out.2 (Nat.le_refl _) ?_))
 intro w1 hown1 hgrow1
 have hb1:Below w.heap.size w w1:=(Below.refl _ _).grown hgrow1 (Nat.le_refl _) (fun k hk=>by simp at hk)
 have HP0:=Hd (show PartInv w fr n k w1 n k [] from ⟨by simp,by simp,HBk.out,Nat.le_refl _,⟨_,hown1,fun i x h=>by simp at h⟩,hb1⟩)
 have x1':=x1
 rw [← hb1.cell hbl] at x1'
 clear hown1 hgrow1 hb1
 go_wp2_with fail
 go_loopg [8,9] n (fun m v8 v9 wy=>∃ (r e:Nat) (x y:Int) (tail:List Nat),m = r ∧ r ≤ n ∧ v9 = .int .i64 x ∧ v8 = .int .i64 y ∧ x = (r:Int) - 1 ∧ y = (e:Int) - 1 ∧ Hid (PartInv w fr n k wy r e tail))
 case atStart=>exact ⟨n,k,_,_,[],rfl,Nat.le_refl _,rfl,rfl,rfl,rfl,HP0⟩
 case round=>
  obtain ⟨r,e,x,y,tail,hm,hrn,rfl,rfl,hx,hy,HP⟩:=hrel
  have hek:=HP.out.le
  cases r with
  | zero=>
    have t1:decide (0 ≤ x) = false:=by simp;omega
    go_wp2_with fail
    go_ret
    exact partEnd HP.out.done (Below.refl _ _) HP.out.below
  | succ r=>
    obtain ⟨d,rfl⟩:∃ d,e = d + 1:=⟨e - 1,by have:=HP.out.back.1;omega⟩
    obtain rfl:x = (r:Int):=by omega
    obtain rfl:y = (d:Int):=by omega
    clear hx hy
    have t1:decide (0 ≤ (r:Int)) = true:=by simp
    obtain ⟨⟨u,c1⟩,c2⟩:=HP.out.cell
    have HN:=Hd HP.out.next
    obtain ⟨bf,of,hbf,hbl2,c3⟩:=nats_at HF.out (show d < fr.length by omega)
    subst hbf
    rw [← HN.out.below.cell hbl2] at c3
    rw [List.getD_eq_getElem?_getD,List.getElem?_eq_getElem (show d < fr.length by omega),Option.getD_some] at HN
    have hfd:fr[d] ≤ d:=by have:=HP.out.back.2.1;rw [Nat.add_sub_cancel,List.getD_eq_getElem?_getD,List.getElem?_eq_getElem (show d < fr.length by omega),Option.getD_some] at this;omega
    generalize fr[d] = q at *
    go_wp2_with fail
    go_roundg r
    case measure=>omega
    case rel=>exact ⟨r,q,_,_,d :: tail,rfl,by omega,rfl,rfl,by omega,by omega,HN⟩
set_option maxRecDepth 100000 in
set_option maxHeartbeats 8000000 in
theorem tparts_ok (a:Option Addr) (cap:Nat) (t:List Nd) (b:Option Addr) (capb:Nat) (fr:List Nat) (w:World) (hI:IsNds w.heap.size w a t) (hF:IsNats w.heap.size w b fr) (hl:t.length ≤ 4096) (hf:Formed t fr) (k:Nat) (hk:k < t.length) :
 Calls Tryz.prog 74 #[.agg #[.slice a t.length cap,.slice b fr.length capb],.int .i64 (k:Int)] w (PartEnd (partsAt t fr k) w):=by
 obtain ⟨hn0,hbk,_⟩:=hf.node k _ (List.getElem?_eq_getElem hk)
 rw [partsAt_is (List.getElem?_eq_getElem hk)]
 obtain ⟨ba,off,ha,hbl,x0,x1,x2,x3,x4,x5⟩:=nds_at hI hk
 subst ha
 clear x0 x2 x3 x4 x5
 have HFL:=Hd hf.len
 have HF:=Hd hF
 clear hF hf hI
 generalize t[k].n = xn at *
 obtain ⟨n,rfl⟩:∃ n:Nat,xn = (n:Int):=⟨xn.toNat,by omega⟩
 rw [Int.toNat_natCast] at *
 have hnk:=hbk.le
 have HBk:=Hd hbk
 obtain ⟨i0,hi,hz0,hz1,hz2⟩:=info_parts infoInt
 have HI0:=Hd (And.intro hi (And.intro hz0 (And.intro hz1 hz2)))
 have HNum:=Hd (show i0.bytes * n ≤ 281474976710656 ∧ n ≤ maxLen from ⟨by rw [hz2];omega,by unfold maxLen;omega⟩)
 clear hi hz0 hz1 hz2 hbk hn0
 go_enter Tryz.func74,Tryz.ntmps74
 go_upto_region 1 with fail
 have hxw:(w.alloc (.cells #[.slice (some ⟨ba,off,none⟩) t.length cap,.slice b fr.length capb] 126)).heap[w.heap.size]? = some (.cells #[.slice (some ⟨ba,off,none⟩) t.length cap,.slice b fr.length capb] 126 (0,0)):=heap_alloc_new _ _
 have hbw:Below w.heap.size w (w.alloc (.cells #[.slice (some ⟨ba,off,none⟩) t.length cap,.slice b fr.length capb] 126)):=ba1 _ _
 generalize w.alloc (.cells #[.slice (some ⟨ba,off,none⟩) t.length cap,.slice b fr.length capb] 126) = w0 at *
 have hzw:=lt_of_heap hxw
 obtain ⟨⟨z0,z1⟩,_⟩:=two_block hxw
 rw [← hbw.cell hbl] at x1
 have hbl:=Nat.lt_of_lt_of_le hbl hbw.size
 have HBW:=Hd hbw
 clear hxw hbw
 go_wp2_with (at_make;go_loud (refine wpList_make_full _ rfl _ _ _ rfl w0.heap.size 3 i0 (.int .i64 0) 1 Tryz.underlying124 HI0.out.1 HI0.out.2.1 HI0.out.2.2.1 .i64 .i64 (n:Int) (n:Int) n rfl rfl rfl rfl HNum.out.1 HNum.out.2 (Nat.le_refl _) ?_))
 intro w1 hown1 hgrow1
 have hb1:Below w0.heap.size w0 w1:=(Below.refl _ _).grown hgrow1 (Nat.le_refl _) (fun k hk=>by simp at hk)
 have HP0:=Hd (show PartInv w0 fr n k w1 n k [] from ⟨by simp,by simp,HBk.out,Nat.le_refl _,⟨_,hown1,fun i x h=>by simp at h⟩,hb1⟩)
 have y0:=z0
 have y1:=z1
 rw [← hb1.cell hzw] at y0 y1
 rw [← hb1.cell hbl] at x1
 clear hown1 hgrow1 hb1
 go_wp2_with fail
 go_loopg [6,7] n (fun m v6 v7 wy=>∃ (r e:Nat) (x y:Int) (tail:List Nat),m = r ∧ r ≤ n ∧ v7 = .int .i64 x ∧ v6 = .int .i64 y ∧ x = (r:Int) - 1 ∧ y = (e:Int) - 1 ∧ Hid (PartInv w0 fr n k wy r e tail))
 case atStart=>exact ⟨n,k,_,_,[],rfl,Nat.le_refl _,rfl,rfl,rfl,rfl,HP0⟩
 case round=>
  obtain ⟨r,e,x,y,tail,hm,hrn,rfl,rfl,hx,hy,HP⟩:=hrel
  have hek:=HP.out.le
  cases r with
  | zero=>
    have t1:decide (0 ≤ x) = false:=by simp;omega
    go_wp2_with fail
    go_ret
    exact partEnd HP.out.done HBW.out HP.out.below
  | succ r=>
    obtain ⟨d,rfl⟩:∃ d,e = d + 1:=⟨e - 1,by have:=HP.out.back.1;omega⟩
    obtain rfl:x = (r:Int):=by omega
    obtain rfl:y = (d:Int):=by omega
    clear hx hy
    have t1:decide (0 ≤ (r:Int)) = true:=by simp
    obtain ⟨⟨u,c1⟩,c2⟩:=HP.out.cell
    have HN:=Hd HP.out.next
    have hdl:d < fr.length:=by have:=HFL.out;omega
    obtain ⟨bf,of,hbf,hbl2,c3⟩:=nats_at HF.out hdl
    subst hbf
    rw [← HBW.out.cell hbl2,← HN.out.below.cell (Nat.lt_of_lt_of_le hbl2 HBW.out.size)] at c3
    have y2:=z1
    rw [← HN.out.below.cell hzw] at y2
    rw [List.getD_eq_getElem?_getD,List.getElem?_eq_getElem hdl,Option.getD_some] at HN
    have hfd:fr[d] ≤ d:=by have:=HP.out.back.2.1;rw [Nat.add_sub_cancel,List.getD_eq_getElem?_getD,List.getElem?_eq_getElem hdl,Option.getD_some] at this;omega
    generalize fr[d] = q at *
    go_wp2_with fail
    go_roundg r
    case measure=>omega
    case rel=>exact ⟨r,q,_,_,d :: tail,rfl,by omega,rfl,rfl,by omega,by omega,HN⟩
end Go.Proofs.YtbbaooeioogijaaGreatDoor
