/- Where parts begin: the program. -/
import Derived.Test.YtkokdafkjjcgoaaGreatDoorMg17
import Derived.OwnWalk
namespace Go.Proofs.YtkokdafkjjcgoaaGreatDoor
open Go.RowKit
theorem infoInt:(Tryz.prog.info? 3).map (fun i=>(i.zero,i.size,i.bytes)) = some (some (.int .i64 0),1,8):=by kernel_rfl
def natV (n:Nat):Value:=.int .i64 (n:Int)
def NatRow (w:World) (base:Nat) (v:Value) (L:List Nat):Prop:=w.ownsRow base 3 1 v L.length (L.map natV)
theorem rev_take (st:List Nat) (m:Nat) (_h:m ≤ st.length):st.reverse.take (st.length - m) = (st.drop m).reverse:=by
 rw [List.reverse_drop]
theorem natRow_sl {w:World} {base:Nat} {v:Value} {L:List Nat} (h:NatRow w base v L):∃ a cap,v = .slice a L.length cap ∧ (L ≠ [] → ∃ g,a = some ⟨g,0,none⟩ ∧ base ≤ g ∧ g < w.heap.size ∧ ∀ (i:Nat) x,L[i]? = some x → w.cell? ⟨g,i,none⟩ = some (.int .i64 (x:Int))):=by
 rcases h.2 with ⟨rfl,h0⟩ | ⟨g,cap,cur,rfl,hb,hg,_⟩
 ·have:L = []:=List.eq_nil_of_length_eq_zero h0
  subst this
  exact ⟨none,0,rfl,fun h=>absurd rfl h⟩
 ·refine ⟨_,cap,rfl,fun _=>⟨g,rfl,hb,lt_of_heap hg,fun i x hx=>?_⟩⟩
  have:=h.cells (g:=g) rfl i (natV x) (by rw [List.getElem?_map,hx];rfl)
  rw [addN,Nat.zero_add] at this
  exact this
theorem own_nil9 {w:World} {base:Nat} {T:TypeId} (hb:base ≤ w.heap.size):(w.alloc (.cells #[] T)).ownsRow base T 1 (.slice (some ⟨w.heap.size,0,none⟩) 0 0) 0 []:=World.ownsRow_lit w #[] 0 hb (by decide) rfl
structure BegInv (w:World) (t:List Nd) (wy:World) (g cap i:Nat) (pre st:List Nat):Prop where
 rest:beginsF t 0 [] = (beginsF (t.drop i) i st).map fun r=>(pre ++ r.1,r.2)
 len:pre.length = i
 row:∃ ys,wy.ownsRow w.heap.size 3 1 (.slice (some ⟨w.heap.size,0,none⟩) t.length t.length) t.length ys ∧ ∀ (j:Nat) x,pre[j]? = some x → ys[j]? = some (natV x)
 stk:wy.ownsRow w.heap.size 3 1 (.slice (some ⟨g,0,none⟩) st.length cap) st.length (st.reverse.map natV)
 apart:g ≠ w.heap.size
 stl:st.length ≤ i
 below:Below w.heap.size w wy
theorem BegInv.done {w wy:World} {t:List Nd} {g cap:Nat} {pre st:List Nat} (h:BegInv w t wy g cap t.length pre st):NatRow wy w.heap.size (.slice (some ⟨w.heap.size,0,none⟩) t.length t.length) pre:=by
 obtain ⟨ys,ho,hp⟩:=h.row
 have hl:=ho.1
 rw [Nat.mul_one] at hl
 have:ys = pre.map natV:=by
  apply List.ext_getElem?
  intro j
  rw [List.getElem?_map]
  rcases hx:pre[j]? with _ | x
  ·rw [List.getElem?_eq_none_iff] at hx
   have:=h.len
   rw [List.getElem?_eq_none (by omega)];rfl
  ·rw [hp j x hx];rfl
 subst this
 unfold NatRow
 rw [h.len]
 exact ho
structure BegMid (w:World) (t:List Nd) (wy:World) (g cap i a:Nat) (pre st:List Nat):Prop where
 len:pre.length = i
 row:∃ ys,wy.ownsRow w.heap.size 3 1 (.slice (some ⟨w.heap.size,0,none⟩) t.length t.length) t.length ys ∧ (∀ (j:Nat) x,pre[j]? = some x → ys[j]? = some (natV x)) ∧ ys[i]? = some (natV a)
 stk:wy.ownsRow w.heap.size 3 1 (.slice (some ⟨g,0,none⟩) st.length cap) st.length (st.reverse.map natV)
 apart:g ≠ w.heap.size
 below:Below w.heap.size w wy
theorem row_set9 {w:World} {B m:Nat} {e:TypeId} {size:Nat} {v:Value} {xs:List Value} (h:w.ownsRow B e size v m xs) (a:Addr) (u:Value) (hne:v.ownBlock ≠ some a.block):(w.setCell a u).ownsRow B e size v m xs:=
 h.kept (row:=some a.block) ⟨rfl,rfl,rfl,by simp,fun k _ hk=>heap_setCell_other w a k u (fun e=>hk (by simp [e]))⟩ (.inr hne)
theorem BegInv.cell {w wy:World} {t:List Nd} {g cap i:Nat} {pre st:List Nat} (h:BegInv w t wy g cap i pre st) (hi:i < t.length) {w2:World} (hb:Below wy.heap.size wy w2):(∃ u,w2.cell? ⟨w.heap.size,i,none⟩ = some u) ∧ w2.frozen? ⟨w.heap.size,i,none⟩ = false:=by
 obtain ⟨ys,ho,_⟩:=h.row
 have ho2:=ho.belowed hb
 refine ⟨?_,ho2.frozenAt i⟩
 have hl:=ho2.1
 rw [Nat.mul_one] at hl
 rw [ho2.cellAt i (by omega)]
 exact ⟨_,List.getElem?_eq_getElem (by omega)⟩
theorem BegInv.store {w wy:World} {t:List Nd} {g cap i:Nat} {pre st:List Nat} (h:BegInv w t wy g cap i pre st) (hi:i < t.length) {w2:World} (hb:Below wy.heap.size wy w2):BegMid w t (w2.setCell ⟨w.heap.size,i,none⟩ (natV i)) g cap i i pre st:=by
 obtain ⟨ys,ho,hp⟩:=h.row
 have ho2:=ho.belowed hb
 have hl:=ho2.1
 rw [Nat.mul_one] at hl
 refine ⟨h.len,⟨_,(ho2.stored i (natV i)).1,fun j x hx=>?_,?_⟩,row_set9 (h.stk.belowed hb) _ _ (by simp [Value.ownBlock];exact h.apart),h.apart,(h.below.trans (hb.mono h.below.size)).setCell (Nat.le_refl _) _⟩
 ·have:=(List.getElem?_eq_some_iff.1 hx).1
  have:=h.len
  rw [List.getElem?_set_ne (by omega)]
  exact hp j x hx
 ·rw [List.getElem?_set_self (by omega)]
theorem BegMid.cell {w wy:World} {t:List Nd} {g cap i a:Nat} {pre st:List Nat} (h:BegMid w t wy g cap i a pre st):wy.cell? ⟨w.heap.size,i,none⟩ = some (natV a) ∧ wy.frozen? ⟨w.heap.size,i,none⟩ = false:=by
 obtain ⟨ys,ho,_,hp⟩:=h.row
 have hl:=ho.1
 rw [Nat.mul_one] at hl
 have:=(List.getElem?_eq_some_iff.1 hp).1
 exact ⟨by rw [ho.cellAt i (by omega)];exact hp,ho.frozenAt i⟩
theorem BegMid.top {w wy:World} {t:List Nd} {g cap i a:Nat} {pre st:List Nat} (h:BegMid w t wy g cap i a pre st) {q m:Nat} (hq:st.length = q + m) (hm:0 < m):wy.cell? ⟨g,q,none⟩ = some (.int .i64 ((st.getD (m - 1) 0:Nat):Int)):=by
 rw [h.stk.cellAt q (by omega),List.getElem?_map,List.getElem?_reverse (by omega),show st.length - 1 - q = m - 1 by omega,List.getElem?_eq_getElem (by omega)]
 simp [natV,List.getD_eq_getElem?_getD,List.getElem?_eq_getElem (show m - 1 < st.length by omega)]
theorem BegMid.store {w wy:World} {t:List Nd} {g cap i a:Nat} {pre st:List Nat} (h:BegMid w t wy g cap i a pre st) (c:Nat):BegMid w t (wy.setCell ⟨w.heap.size,i,none⟩ (natV c)) g cap i c pre st:=by
 obtain ⟨ys,ho,hp,hi⟩:=h.row
 have:=(List.getElem?_eq_some_iff.1 hi).1
 refine ⟨h.len,⟨_,(ho.stored i (natV c)).1,fun j x hx=>?_,?_⟩,row_set9 h.stk _ _ (by simp [Value.ownBlock];exact h.apart),h.apart,h.below.setCell (Nat.le_refl _) _⟩
 ·have:=(List.getElem?_eq_some_iff.1 hx).1
  have:=h.len
  rw [List.getElem?_set_ne (by omega)]
  exact hp j x hx
 ·rw [List.getElem?_set_self (by omega)]
theorem BegMid.node {w wy:World} {t:List Nd} {g cap i a:Nat} {pre st:List Nat} (h:BegMid w t wy g cap i a pre st) {q m:Nat} (hq:st.length = q + m):wy.ownsRow w.heap.size 3 1 (.slice (some ⟨g,0,none⟩) q cap) q ((st.drop m).reverse.map natV):=by
 have:=own_take h.stk (m:=q) (by omega)
 rw [Nat.mul_one,← List.map_take,show q = st.length - m by omega,rev_take st m (by omega)] at this
 rw [show q = st.length - m by omega]
 exact this
theorem BegMid.next {w wy w4 w5:World} {t:List Nd} {g cap i a g5 cp5:Nat} {pre st:List Nat} (h:BegMid w t wy g cap i a pre st) {q m:Nat} (hq:st.length = q + m) (hst:st.length ≤ i) (hb:Below wy.heap.size wy w4)
 (hown:w5.ownsRow w.heap.size 3 1 (.slice (some ⟨g5,0,none⟩) (q + 1) cp5) (q + 1) ((st.drop m).reverse.map natV ++ [.int .i64 (a:Int)])) (hgrow:w4.grownBy w5 (some g)) (hat:some g = some g5 ∨ g5 = w4.heap.size)
 (hrest:beginsF t 0 [] = (beginsF (t.drop (i + 1)) (i + 1) (a :: st.drop m)).map fun r=>(pre ++ [a] ++ r.1,r.2)):BegInv w t w5 g5 cp5 (i + 1) (pre ++ [a]) (a :: st.drop m):=by
 obtain ⟨ys,ho,hp,hi⟩:=h.row
 have hil:=(List.getElem?_eq_some_iff.1 hi).1
 have hle:w.heap.size < wy.heap.size:=by
  rcases ho.2 with ⟨h,_⟩ | ⟨q,_,_,h,_,hq,_⟩
  ·simp at h
  ·simp only [Value.slice.injEq,Option.some.injEq,Addr.mk.injEq,and_true] at h
   rw [h.1];exact lt_of_heap hq
 have hg:w.heap.size ≤ g:=by
  rcases h.stk.2 with ⟨h,_⟩ | ⟨q,_,_,h,hb,hq,_⟩
  ·simp at h
  ·simp only [Value.slice.injEq,Option.some.injEq,Addr.mk.injEq,and_true] at h
   rw [h.1];exact hb
 have e:(a :: st.drop m).length = q + 1:=by simp;omega
 refine ⟨hrest,by rw [List.length_append,h.len];rfl,⟨ys,(ho.belowed hb).kept hgrow (.inr (by simp [Value.ownBlock];exact fun h'=>h.apart h'.symm)),fun j x hx=>?_⟩,?_,?_,by rw [e];omega,(h.below.trans (hb.mono h.below.size)).grown hgrow (Nat.le_trans h.below.size hb.size) (fun k hk=>by simp only [Option.some.injEq] at hk;omega)⟩
 ·rcases Nat.lt_or_ge j pre.length with hj | hj
  ·rw [List.getElem?_append_left hj] at hx
   exact hp j x hx
  ·have:=(List.getElem?_eq_some_iff.1 hx).1
   rw [List.length_append,h.len] at this
   simp only [List.length_cons,List.length_nil] at this
   obtain rfl:j = i:=by have:=h.len;omega
   rw [List.getElem?_append_right hj,h.len,Nat.sub_self] at hx
   simp at hx
   subst hx
   exact hi
 ·rw [e,List.reverse_cons,List.map_append]
  exact hown
 ·rcases hat with h' | h'
  ·have:=Option.some.inj h'
   rw [← this];exact h.apart
  ·have:=hb.size
   omega
theorem BegMid.cap_le {w wy:World} {t:List Nd} {g cap i a:Nat} {pre st:List Nat} (h:BegMid w t wy g cap i a pre st):st.length ≤ cap ∧ cap ≤ maxLen ∧ w.heap.size ≤ wy.heap.size:=by
 rcases h.stk.2 with ⟨h,_⟩ | ⟨q,_,_,h',hb,hq,h1,h2,_⟩
 ·simp at h
 ·simp only [Value.slice.injEq,Option.some.injEq,Addr.mk.injEq,and_true,true_and] at h'
  exact ⟨by rw [h'.2];exact h1,by rw [h'.2];exact h2,h.below.size⟩
theorem BegMid.lt {w wy:World} {t:List Nd} {g cap i a:Nat} {pre st:List Nat} (h:BegMid w t wy g cap i a pre st):w.heap.size < wy.heap.size:=by
 obtain ⟨ys,ho,_⟩:=h.row
 rcases ho.2 with ⟨h,_⟩ | ⟨q,_,_,h,_,hq,_⟩
 ·simp at h
 ·simp only [Value.slice.injEq,Option.some.injEq,Addr.mk.injEq,and_true] at h
  rw [h.1];exact lt_of_heap hq
theorem BegInv.lastc {w wy:World} {t:List Nd} {g cap i a:Nat} {pre st:List Nat} (h:BegInv w t wy g cap (i + 1) (pre ++ [a]) st):wy.cell? ⟨w.heap.size,i,none⟩ = some (.int .i64 (a:Int)):=by
 obtain ⟨ys,ho,hp⟩:=h.row
 have hl:=h.len
 rw [List.length_append] at hl
 simp only [List.length_cons,List.length_nil] at hl
 have hx:=hp i a (by rw [List.getElem?_append_right (by omega),show i - pre.length = 0 by omega];rfl)
 have:=(List.getElem?_eq_some_iff.1 hx).1
 have:=ho.1
 rw [ho.cellAt i (by omega)]
 exact hx
def BegEnd (t:List Nd) (w:World) (e:Ending) (w':World):Prop:=(∃ v ok,e = .returned (.tuple #[v,.bool ok]) ∧ (ok = (beginsN t).isSome) ∧ (ok = true → ∃ fr,beginsN t = some fr ∧ NatRow w' w.heap.size v fr)) ∧ Below w.heap.size w w'
theorem begEnd_no {t:List Nd} {w w':World} {v:Value} (h:beginsN t = none) (hb:Below w.heap.size w w'):BegEnd t w (.returned (.tuple #[v,.bool false])) w':=⟨⟨v,false,rfl,by rw [h];rfl,fun h=>by cases h⟩,hb⟩
theorem begEnd_yes {t:List Nd} {w w':World} {v:Value} {fr:List Nat} (h:beginsN t = some fr) (hr:NatRow w' w.heap.size v fr) (hb:Below w.heap.size w w'):BegEnd t w (.returned (.tuple #[v,.bool true])) w':=⟨⟨v,true,rfl,by rw [h];rfl,fun _=>⟨fr,h,hr⟩⟩,hb⟩
theorem begins_stop {t:List Nd} {i:Nat} {pre st:List Nat} {x:Nd} (h:beginsF t 0 [] = (beginsF (t.drop i) i st).map fun r=>(pre ++ r.1,r.2)) (hx:t.drop i = x :: t.drop (i + 1)) (hn:x.n < 0 ∨ (st.length:Int) < x.n):beginsN t = none:=by
 unfold beginsN
 rw [h,hx,beginsF,if_pos hn];rfl
theorem begins_step {t:List Nd} {i:Nat} {pre st:List Nat} {x:Nd} (h:beginsF t 0 [] = (beginsF (t.drop i) i st).map fun r=>(pre ++ r.1,r.2)) (hx:t.drop i = x :: t.drop (i + 1)) (hn:0 ≤ x.n) (hl:x.n ≤ (st.length:Int)) {a:Nat} (ha:(if 0 < x.n then st.getD (x.n.toNat - 1) 0 else i) = a) :
 beginsF t 0 [] = (beginsF (t.drop (i + 1)) (i + 1) (a :: st.drop x.n.toNat)).map fun r=>(pre ++ [a] ++ r.1,r.2):=by
 rw [h,hx,beginsF,if_neg (by omega)]
 simp only [ha,Option.map_map]
 congr 1
 funext r
 simp
theorem begins_done {t:List Nd} {pre st:List Nat} (h:beginsF t 0 [] = (beginsF (t.drop t.length) t.length st).map fun r=>(pre ++ r.1,r.2)):(st.length = 1 → beginsN t = some pre) ∧ (st.length ≠ 1 → beginsN t = none):=by
 rw [List.drop_length,beginsF] at h
 simp only [Option.map_some,List.append_nil] at h
 unfold beginsN
 rw [h]
 constructor
 ·intro h1
  obtain ⟨s,rfl⟩:=List.length_eq_one_iff.1 h1
  rfl
 ·intro h1
  match st,h1 with
  | [],_=>rfl
  | [s],h1=>simp at h1
  | _ :: _ :: _,_=>rfl
set_option maxRecDepth 100000 in
set_option maxHeartbeats 8000000 in
theorem begins_ok (a:Option Addr) (cap:Nat) (t:List Nd) (w:World) (hI:IsNds w.heap.size w a t) (hl:t.length ≤ 4096) (hOk:∀ x ∈ t,NdOk x) :
 Calls Tryz.prog 80 #[.slice a t.length cap] w (BegEnd t w):=by
 have HI:=Hd hI
 have HOk:=Hd hOk
 have hli:(t.length:Int) ≤ 4096:=by omega
 obtain ⟨i0,hi,hz0,hz1,hz2⟩:=info_parts infoInt
 have HI0:=Hd (And.intro hi (And.intro hz0 (And.intro hz1 hz2)))
 have HNum:=Hd (show i0.bytes * t.length ≤ 281474976710656 ∧ t.length ≤ maxLen from ⟨by rw [hz2];omega,by unfold maxLen;omega⟩)
 clear hi hz0 hz1 hz2 hI hOk
 go_enter Tryz.func80,Tryz.ntmps80
 go_wp2_with (at_make;refine wpList_make_full _ rfl _ _ _ rfl w.heap.size 3 i0 (.int .i64 0) 1 Tryz.underlying27 HI0.out.1 HI0.out.2.1 HI0.out.2.2.1 .i64 .i64 (t.length:Int) (t.length:Int) t.length rfl rfl rfl rfl HNum.out.1 HNum.out.2 (Nat.le_refl _) ?_)
 intro w1 hown1 hgrow1
 have HB1:=Hd (show Below w.heap.size w w1 from (Below.refl _ _).grown hgrow1 (Nat.le_refl _) (fun k hk=>by simp at hk))
 have HO1:=Hd hown1
 have HS1:=Hd (show w.heap.size < w1.heap.size from (by rcases hown1.2 with ⟨h,_⟩ | ⟨q,_,_,h,_,hq,_⟩;simp at h;simp only [Value.slice.injEq,Option.some.injEq,Addr.mk.injEq,and_true] at h;rw [h.1];exact lt_of_heap hq))
 clear hown1 hgrow1
 have HB0:=Hd (show BegInv w t (w1.alloc (.cells #[] 3)) w1.heap.size 0 0 [] [] from ⟨by simp,rfl,⟨_,HO1.out.belowed ((Below.refl _ _).alloc (Nat.le_refl _) _),fun j x h=>by simp at h⟩,own_nil9 HB1.out.size,by have:=HS1.out;omega,Nat.le_refl _,HB1.out.alloc HB1.out.size _⟩)
 go_wp2_with fail
 go_loopg [5,15] t.length (fun m v5 v15 wy=>∃ (i g' c':Nat) (pre st:List Nat),i ≤ t.length ∧ i + m = t.length ∧ v15 = .int .i64 (i:Int) ∧ v5 = .slice (some ⟨g',0,none⟩) st.length c' ∧ Hid (BegInv w t wy g' c' i pre st))
 case atStart=>exact ⟨0,_,_,[],[],by omega,by omega,rfl,rfl,HB0⟩
 case round=>
  obtain ⟨i,g',c',pre,st,hi,him,rfl,rfl,HG⟩:=hrel
  have hstl:(st.length:Int) ≤ 4096:=by have:=HG.out.stl;omega
  by_cases hlt:i < t.length
  ·obtain ⟨b,off,ha,hbl,x0,x1,x2,x3,x4,x5⟩:=nds_at HI.out hlt
   subst ha
   rw [← HG.out.below.cell hbl] at x0 x1 x2 x3 x4 x5
   have HDr:=Hd (show t.drop i = t[i] :: t.drop (i + 1) from List.drop_eq_getElem_cons hlt)
   obtain ⟨_,⟨hn0,hn1⟩,_⟩:=HOk.out _ (List.getElem_mem hlt)
   generalize t[i]'hlt = x at *
   obtain ⟨kk,n,p,ii,s,ty⟩:=x
   simp only at x0 x1 x2 x3 x4 x5 hn0 hn1
   go_upto_region 5 with fail
   have hx2:(wr.alloc (ndObj ⟨kk,n,p,ii,s,ty⟩)).heap[wr.heap.size]? = some (.cells #[.int .i64 kk,.int .i64 n,.int .i64 p,.int .i64 ii,.string s,.string ty] 36 (0,0)):=heap_alloc_new _ _
   have hb2:Below wr.heap.size wr (wr.alloc (ndObj ⟨kk,n,p,ii,s,ty⟩)):=(Below.refl _ _).alloc (Nat.le_refl _) _
   simp only [ndObj] at hx2 hb2
   generalize wr.alloc (.cells #[.int .i64 kk,.int .i64 n,.int .i64 p,.int .i64 ii,.string s,.string ty] 36) = w2 at *
   obtain ⟨⟨_,d1,_⟩,_⟩:=six_block hx2
   have HX2:=Hd hx2
   have HB2:=Hd hb2
   clear x0 x1 x2 x3 x4 x5 hx2 hb2
   have HZw:=Hd (show w.heap.size ≤ wr.heap.size ∧ w.heap.size ≠ wr.heap.size from ⟨HG.out.below.size,by obtain ⟨_,ho,_⟩:=HG.out.row;rcases ho.2 with ⟨h,_⟩ | ⟨q,_,_,h,_,hq,_⟩;simp at h;simp only [Value.slice.injEq,Option.some.injEq,Addr.mk.injEq,and_true] at h;have:=lt_of_heap hq;omega⟩)
   by_cases hneg:n < 0
   ·have t1:decide (n < 0) = true:=by simpa using hneg
    go_wp2_with fail
    go_ret2
    exact begEnd_no (begins_stop HG.out.rest HDr.out (.inl hneg)) (HG.out.below.trans (HB2.out.mono HG.out.below.size))
   ·have t1:decide (n < 0) = false:=by simpa using hneg
    obtain ⟨m,rfl⟩:∃ m:Nat,n = (m:Int):=⟨n.toNat,by omega⟩
    by_cases hm:m ≤ st.length
    ·obtain ⟨q,hq⟩:∃ q,st.length = q + m:=⟨st.length - m,by omega⟩
     have t2:decide ((q:Int) < 0) = false:=by simp
     go_upto_region 6 with fail
     go_upto_region 8 with fail
     obtain ⟨⟨uc,hcc⟩,hcf⟩:=HG.out.cell hlt HB2.out
     go_upto_region 9 with fail
     have HM3:=Hd (HG.out.store hlt HB2.out)
     simp only [natV] at HM3
     have hx3:(w2.setCell ⟨w.heap.size,i,none⟩ (.int .i64 (i:Int))).heap[wr.heap.size]? = some (.cells #[.int .i64 kk,.int .i64 (m:Int),.int .i64 p,.int .i64 ii,.string s,.string ty] 36 (0,0)):=(heap_setCell_other _ _ _ _ (by have:=HZw.out.2;simp;omega)).trans HX2.out
     generalize w2.setCell ⟨w.heap.size,i,none⟩ (.int .i64 (i:Int)) = w3 at *
     clear d1 hcc hcf
     obtain ⟨⟨_,d1,_⟩,_⟩:=six_block hx3
     clear hx3
     by_cases hm0:0 < m
     ·have t3:decide (0 < (m:Int)) = true:=by simpa using hm0
      have HSt:=Hd (begins_step (a:=st.getD (m - 1) 0) HG.out.rest HDr.out (by simp) (by simp;omega) (by simp [hm0]))
      simp only [Int.toNat_natCast] at HSt
      have htop:=HM3.out.top hq hm0
      have HM4:=Hd (HM3.out.store (st.getD (m - 1) 0))
      simp only [natV] at HM4
      obtain ⟨hcc,hcf⟩:=HM3.out.cell
      simp only [natV] at hcc
      generalize st.getD (m - 1) 0 = av at *
      go_upto_region 11 with fail
      generalize w3.setCell ⟨w.heap.size,i,none⟩ (.int .i64 (av:Int)) = w4 at *
      clear hcc hcf htop d1
      have HCl:=Hd (show ∀ w',Below w4.heap.size w4 w' → w'.cell? ⟨w.heap.size,i,none⟩ = some (.int .i64 (av:Int)) from fun w' hb=>by rw [hb.cell HM4.out.lt];exact HM4.out.cell.1)
      have hcl:=HM4.out.cell.1
      simp only [natV] at hcl
      obtain ⟨hcap,hcm,hzz⟩:=HM4.out.cap_le
      have hqc:q ≤ c':=by omega
      have HZ:=Hd hzz
      have HOw:=Hd (HM4.out.node hq)
      clear hzz
      go_region_held3 (fun w'=>w'.cell? ⟨w.heap.size,i,none⟩ = some (.int .i64 (av:Int))) (first | assumption | exact HCl.out _ ((Below.refl _ _).drew) | exact HCl.out _ ((Below.refl _ _).alloc (Nat.le_refl _) _) | exact HCl.out _ (((Below.refl _ _).alloc (Nat.le_refl _) _).drew) | exact HCl.out _ (blw1 _ _) | exact HCl.out _ (blw2 _ _ _))
       ((refine step_append_lies _ (by rfl) _ _ _ (by rfl) w.heap.size 3 i0 (.int .i64 0) 1 8 Tryz.underlying27 HI0.out.1 HI0.out.2.1 HI0.out.2.2.1 HI0.out.2.2.2 (by rfl) (by decide) (.slice (some ⟨g',0,none⟩) q c') q ((st.drop m).reverse.map natV) (by rfl) ?_ ⟨w4.heap.size,0,none⟩ 1 1 [.int .i64 (av:Int)] (by rfl) (by rfl) (World.news_of_block (cs:=#[.int .i64 (av:Int)]) (heap_alloc_new _ _)) (by simp [Value.oneCell']) (by omega) (by unfold maxLen;omega) (by omega) ?_ (w4.heap.size + 1) ?_ ?_;(next=>exact HOw.out.belowed (blw1 _ _));(next=>exact Nat.le_trans HZ.out (blw1 _ _).size);(next=>simp);intro g5 cp5 w5 hown5 hgrow5 hat5 hlt5;have HN5:=Hd (HM4.out.next hq HG.out.stl (blw1 _ _) hown5 hgrow5 (by rcases hat5 with h | h;exact .inl h;exact .inr (by rw [h];simp)) HSt.out);have hcl5:=HN5.out.lastc;clear hown5 hgrow5 hat5 hlt5))
      go_wp2_with fail
      go_roundg (t.length - (i + 1))
      case measure=>omega
      case rel=>exact ⟨i + 1,g5,cp5,pre ++ [av],av :: st.drop m,by omega,by omega,by rw [Int.natCast_add];rfl,by rw [List.length_cons,List.length_drop,show st.length - m = q by omega],HN5⟩
     ·have t3:decide (0 < (m:Int)) = false:=by simp;omega
      have HSt:=Hd (begins_step (a:=i) HG.out.rest HDr.out (by simp) (by simp;omega) (by simp [hm0]))
      simp only [Int.toNat_natCast] at HSt
      go_upto_region 11 with fail
      clear d1
      have HCl:=Hd (show ∀ w',Below w3.heap.size w3 w' → w'.cell? ⟨w.heap.size,i,none⟩ = some (.int .i64 (i:Int)) from fun w' hb=>by rw [hb.cell HM3.out.lt];exact HM3.out.cell.1)
      have hcl:=HM3.out.cell.1
      simp only [natV] at hcl
      obtain ⟨hcap,hcm,hzz⟩:=HM3.out.cap_le
      have hqc:q ≤ c':=by omega
      have HZ:=Hd hzz
      have HOw:=Hd (HM3.out.node hq)
      clear hzz
      go_region_held3 (fun w'=>w'.cell? ⟨w.heap.size,i,none⟩ = some (.int .i64 (i:Int))) (first | assumption | exact HCl.out _ ((Below.refl _ _).drew) | exact HCl.out _ ((Below.refl _ _).alloc (Nat.le_refl _) _) | exact HCl.out _ (((Below.refl _ _).alloc (Nat.le_refl _) _).drew) | exact HCl.out _ (blw1 _ _) | exact HCl.out _ (blw2 _ _ _))
       ((refine step_append_lies _ (by rfl) _ _ _ (by rfl) w.heap.size 3 i0 (.int .i64 0) 1 8 Tryz.underlying27 HI0.out.1 HI0.out.2.1 HI0.out.2.2.1 HI0.out.2.2.2 (by rfl) (by decide) (.slice (some ⟨g',0,none⟩) q c') q ((st.drop m).reverse.map natV) (by rfl) ?_ ⟨w3.heap.size,0,none⟩ 1 1 [.int .i64 (i:Int)] (by rfl) (by rfl) (World.news_of_block (cs:=#[.int .i64 (i:Int)]) (heap_alloc_new _ _)) (by simp [Value.oneCell']) (by omega) (by unfold maxLen;omega) (by omega) ?_ (w3.heap.size + 1) ?_ ?_;(next=>exact HOw.out.belowed (blw1 _ _));(next=>exact Nat.le_trans HZ.out (blw1 _ _).size);(next=>simp);intro g5 cp5 w5 hown5 hgrow5 hat5 hlt5;have HN5:=Hd (HM3.out.next hq HG.out.stl (blw1 _ _) hown5 hgrow5 (by rcases hat5 with h | h;exact .inl h;exact .inr (by rw [h];simp)) HSt.out);have hcl5:=HN5.out.lastc;clear hown5 hgrow5 hat5 hlt5))
      go_wp2_with fail
      go_roundg (t.length - (i + 1))
      case measure=>omega
      case rel=>exact ⟨i + 1,g5,cp5,pre ++ [i],i :: st.drop m,by omega,by omega,by rw [Int.natCast_add];rfl,by rw [List.length_cons,List.length_drop,show st.length - m = q by omega],HN5⟩
    ·have t2:decide ((st.length:Int) - (m:Int) < 0) = true:=by simp;omega
     go_wp2_with fail
     go_ret2
     exact begEnd_no (begins_stop HG.out.rest HDr.out (.inr (by simp;omega))) (HG.out.below.trans (HB2.out.mono HG.out.below.size))
  ·obtain rfl:i = t.length:=by omega
   by_cases h1:st.length = 1
   ·have t2:((st.length:Int) == 1) = true:=by rw [h1];rfl
    go_wp2_with fail
    go_ret2
    exact begEnd_yes ((begins_done HG.out.rest).1 h1) HG.out.done HG.out.below
   ·have t2:((st.length:Int) == 1) = false:=by simp;omega
    go_wp2_with fail
    go_ret2
    exact begEnd_no ((begins_done HG.out.rest).2 h1) HG.out.below
theorem ba1 (w:World) (o:Obj):Below w.heap.size w (w.alloc o):=(Below.refl _ _).alloc (Nat.le_refl _) _
theorem own_at {w:World} {B n g cap size:Nat} {T:TypeId} {xs:List Value} (h:w.ownsRow B T size (.slice (some ⟨g,0,none⟩) n cap) n xs):n ≤ cap ∧ cap ≤ maxLen ∧ B ≤ g ∧ g < w.heap.size:=by
 rcases h.2 with ⟨h,_⟩ | ⟨q,_,_,h',hb,hq,h1,h2,_⟩
 ·simp at h
 ·simp only [Value.slice.injEq,Option.some.injEq,Addr.mk.injEq,and_true,true_and] at h'
  exact ⟨by rw [h'.2];exact h1,by rw [h'.2];exact h2,by rw [h'.1];exact hb,by rw [h'.1];exact lt_of_heap hq⟩
def natCells (n:Nat):List Value:=[natV n]
theorem natCells_len (n:Nat):(natCells n).length = 1:=rfl
theorem flat_nats (L:List Nat):L.flatMap natCells = L.map natV:=by
 induction L with
 | nil=>rfl
 | cons x L ih=>rw [List.flatMap_cons,ih];rfl
abbrev IsNats (B:Nat) (w:World) (a:Option Addr) (L:List Nat):Prop:=IsSl 1 natCells B w a L
theorem NatRow.is {w:World} {base:Nat} {v:Value} {L:List Nat} (h:NatRow w base v L):∃ a cap,v = .slice a L.length cap ∧ IsNats w.heap.size w a L ∧ (a = none → L = [] ∧ cap = 0):=by
 unfold NatRow at h
 rw [← flat_nats] at h
 exact own_sl natCells_len h rfl
theorem nats_at {B:Nat} {w:World} {a:Option Addr} {L:List Nat} (h:IsNats B w a L) {i:Nat} (hi:i < L.length):∃ b off,a = some ⟨b,off,none⟩ ∧ b < B ∧ w.cell? ⟨b,off + i,none⟩ = some (.int .i64 (L[i]:Int)):=by
 obtain ⟨b,off,e,hlt,hc⟩:=h (fun e=>by rw [e] at hi;simp at hi)
 have:=hc i _ (List.getElem?_eq_getElem hi) 0 _ rfl
 rw [Nat.mul_one,Nat.add_zero] at this
 exact ⟨b,off,e,hlt,this⟩
theorem Back.le {fr:List Nat}:∀ {n e:Nat},Back fr n e → n ≤ e
 | 0,_,_=>Nat.zero_le _
 | n + 1,e,⟨h1,h2,h3⟩=>by have:=h3.le;omega
structure PartInv (w:World) (fr:List Nat) (n k:Nat) (wy:World) (r e:Nat) (tail:List Nat):Prop where
 rest:partsE fr n k = partsE fr r e ++ tail
 len:r + tail.length = n
 back:Back fr r e
 le:e ≤ k
 row:∃ ys,wy.ownsRow w.heap.size 3 1 (.slice (some ⟨w.heap.size,0,none⟩) n n) n ys ∧ ∀ (i:Nat) x,tail[i]? = some x → ys[r + i]? = some (natV x)
 below:Below w.heap.size w wy
theorem PartInv.cell {w wy:World} {fr:List Nat} {n k r e:Nat} {tail:List Nat} (h:PartInv w fr n k wy (r + 1) e tail):(∃ u,wy.cell? ⟨w.heap.size,r,none⟩ = some u) ∧ wy.frozen? ⟨w.heap.size,r,none⟩ = false:=by
 obtain ⟨ys,ho,_⟩:=h.row
 have hl:=ho.1
 have:=h.len
 refine ⟨?_,ho.frozenAt r⟩
 rw [ho.cellAt r (by omega)]
 exact ⟨_,List.getElem?_eq_getElem (by omega)⟩
theorem PartInv.next {w wy:World} {fr:List Nat} {n k r d:Nat} {tail:List Nat} (h:PartInv w fr n k wy (r + 1) (d + 1) tail):PartInv w fr n k (wy.setCell ⟨w.heap.size,r,none⟩ (.int .i64 (d:Int))) r (fr.getD d 0) (d :: tail):=by
 obtain ⟨ys,ho,hp⟩:=h.row
 obtain ⟨hb1,hb2,hb3⟩:=h.back
 rw [Nat.add_sub_cancel] at hb2 hb3
 have hl:=ho.1
 have hlen:=h.len
 refine ⟨by rw [h.rest,partsE,List.append_assoc,Nat.add_sub_cancel];rfl,by rw [List.length_cons];omega,hb3,by have:=h.le;omega,⟨_,(ho.stored r (natV d)).1,fun i x hx=>?_⟩,h.below.setCell (Nat.le_refl _) _⟩
 cases i with
 | zero=>
   obtain rfl:=Option.some.inj hx
   rw [Nat.add_zero,List.getElem?_set_self (by omega)]
 | succ i=>
   rw [List.getElem?_set_ne (by omega),show r + (i + 1) = r + 1 + i by omega]
   exact hp i x (by simpa using hx)
theorem PartInv.done {w wy:World} {fr:List Nat} {n k e:Nat} {tail:List Nat} (h:PartInv w fr n k wy 0 e tail):NatRow wy w.heap.size (.slice (some ⟨w.heap.size,0,none⟩) n n) (partsE fr n k):=by
 obtain ⟨ys,ho,hp⟩:=h.row
 have hl:=ho.1
 have hlen:=h.len
 have hr:=h.rest
 rw [partsE,List.nil_append] at hr
 have:ys = tail.map natV:=by
  apply List.ext_getElem?
  intro j
  rw [List.getElem?_map]
  rcases hx:tail[j]? with _ | x
  ·rw [List.getElem?_eq_none_iff] at hx
   rw [List.getElem?_eq_none (by omega)];rfl
  ·have:=hp j x hx
   rw [Nat.zero_add] at this
   rw [this];rfl
 subst this
 unfold NatRow
 rw [hr,show tail.length = n by omega]
 exact ho
theorem own_le9 {w:World} {base base':Nat} {e:TypeId} {size:Nat} {v:Value} {n:Nat} {xs:List Value} (h:w.ownsRow base e size v n xs) (hb:base' ≤ base):w.ownsRow base' e size v n xs:=
 ⟨h.1,h.2.imp id fun ⟨g,cap,cur,h1,h2,h3⟩=>⟨g,cap,cur,h1,Nat.le_trans hb h2,h3⟩⟩
def PartEnd (L:List Nat) (w:World) (e:Ending) (w':World):Prop:=(∃ v,e = .returned v ∧ NatRow w' w.heap.size v L) ∧ Below w.heap.size w w'
theorem partEnd {L:List Nat} {w w1 w':World} {v:Value} (h:NatRow w' w1.heap.size v L) (h1:Below w.heap.size w w1) (hb:Below w1.heap.size w1 w'):PartEnd L w (.returned v) w':=
 ⟨⟨v,rfl,own_le9 h h1.size⟩,h1.trans (hb.mono h1.size)⟩
set_option maxRecDepth 100000 in
set_option maxHeartbeats 8000000 in
theorem tparts_ok (a:Option Addr) (cap:Nat) (t:List Nd) (b:Option Addr) (capb:Nat) (fr:List Nat) (w:World) (hI:IsNds w.heap.size w a t) (hF:IsNats w.heap.size w b fr) (hl:t.length ≤ 4096) (hf:Formed t fr) (k:Nat) (hk:k < t.length) :
 Calls Tryz.prog 42 #[.agg #[.slice a t.length cap,.slice b fr.length capb],.int .i64 (k:Int)] w (PartEnd (partsAt t fr k) w):=by
 obtain ⟨hn0,hbk,_⟩:=hf.node k _ (List.getElem?_eq_getElem hk)
 rw [partsAt_is (List.getElem?_eq_getElem hk)]
 obtain ⟨ba,off,ha,hbl,x0,x1,x2,x3,x4,x5⟩:=nds_at hI hk
 subst ha
 clear x0 x2 x3 x4 x5
 have HFL:=Hd hf.len
 have HF:=Hd hF
 clear hF hf hI
 generalize t[k].n = xn at *
 obtain ⟨n,rfl⟩:∃ n:Nat,xn = (n:Int):=⟨xn.toNat,by omega⟩
 rw [Int.toNat_natCast] at *
 have hnk:=hbk.le
 have HBk:=Hd hbk
 obtain ⟨i0,hi,hz0,hz1,hz2⟩:=info_parts infoInt
 have HI0:=Hd (And.intro hi (And.intro hz0 (And.intro hz1 hz2)))
 have HNum:=Hd (show i0.bytes * n ≤ 281474976710656 ∧ n ≤ maxLen from ⟨by rw [hz2];omega,by unfold maxLen;omega⟩)
 clear hi hz0 hz1 hz2 hbk hn0
 go_enter Tryz.func42,Tryz.ntmps42
 go_upto_region 1 with fail
 have hxw:(w.alloc (.cells #[.slice (some ⟨ba,off,none⟩) t.length cap,.slice b fr.length capb] 81)).heap[w.heap.size]? = some (.cells #[.slice (some ⟨ba,off,none⟩) t.length cap,.slice b fr.length capb] 81 (0,0)):=heap_alloc_new _ _
 have hbw:Below w.heap.size w (w.alloc (.cells #[.slice (some ⟨ba,off,none⟩) t.length cap,.slice b fr.length capb] 81)):=ba1 _ _
 generalize w.alloc (.cells #[.slice (some ⟨ba,off,none⟩) t.length cap,.slice b fr.length capb] 81) = w0 at *
 have hzw:=lt_of_heap hxw
 obtain ⟨⟨z0,z1⟩,_⟩:=two_block hxw
 rw [← hbw.cell hbl] at x1
 have hbl:=Nat.lt_of_lt_of_le hbl hbw.size
 have HBW:=Hd hbw
 clear hxw hbw
 go_wp2_with (at_make;go_loud (refine wpList_make_full _ rfl _ _ _ rfl w0.heap.size 3 i0 (.int .i64 0) 1 Tryz.underlying27 HI0.out.1 HI0.out.2.1 HI0.out.2.2.1 .i64 .i64 (n:Int) (n:Int) n rfl rfl rfl rfl HNum.out.1 HNum.out.2 (Nat.le_refl _) ?_))
 intro w1 hown1 hgrow1
 have hb1:Below w0.heap.size w0 w1:=(Below.refl _ _).grown hgrow1 (Nat.le_refl _) (fun k hk=>by simp at hk)
 have HP0:=Hd (show PartInv w0 fr n k w1 n k [] from ⟨by simp,by simp,HBk.out,Nat.le_refl _,⟨_,hown1,fun i x h=>by simp at h⟩,hb1⟩)
 have y0:=z0
 have y1:=z1
 rw [← hb1.cell hzw] at y0 y1
 rw [← hb1.cell hbl] at x1
 clear hown1 hgrow1 hb1
 go_wp2_with fail
 go_loopg [6,7] n (fun m v6 v7 wy=>∃ (r e:Nat) (x y:Int) (tail:List Nat),m = r ∧ r ≤ n ∧ v7 = .int .i64 x ∧ v6 = .int .i64 y ∧ x = (r:Int) - 1 ∧ y = (e:Int) - 1 ∧ Hid (PartInv w0 fr n k wy r e tail))
 case atStart=>exact ⟨n,k,_,_,[],rfl,Nat.le_refl _,rfl,rfl,rfl,rfl,HP0⟩
 case round=>
  obtain ⟨r,e,x,y,tail,hm,hrn,rfl,rfl,hx,hy,HP⟩:=hrel
  have hek:=HP.out.le
  cases r with
  | zero=>
    have t1:decide (0 ≤ x) = false:=by simp;omega
    go_wp2_with fail
    go_ret
    exact partEnd HP.out.done HBW.out HP.out.below
  | succ r=>
    obtain ⟨d,rfl⟩:∃ d,e = d + 1:=⟨e - 1,by have:=HP.out.back.1;omega⟩
    obtain rfl:x = (r:Int):=by omega
    obtain rfl:y = (d:Int):=by omega
    clear hx hy
    have t1:decide (0 ≤ (r:Int)) = true:=by simp
    obtain ⟨⟨u,c1⟩,c2⟩:=HP.out.cell
    have HN:=Hd HP.out.next
    have hdl:d < fr.length:=by have:=HFL.out;omega
    obtain ⟨bf,of,hbf,hbl2,c3⟩:=nats_at HF.out hdl
    subst hbf
    rw [← HBW.out.cell hbl2,← HN.out.below.cell (Nat.lt_of_lt_of_le hbl2 HBW.out.size)] at c3
    have y2:=z1
    rw [← HN.out.below.cell hzw] at y2
    rw [List.getD_eq_getElem?_getD,List.getElem?_eq_getElem hdl,Option.getD_some] at HN
    have hfd:fr[d] ≤ d:=by have:=HP.out.back.2.1;rw [Nat.add_sub_cancel,List.getD_eq_getElem?_getD,List.getElem?_eq_getElem hdl,Option.getD_some] at this;omega
    generalize fr[d] = q at *
    go_wp2_with fail
    go_roundg r
    case measure=>omega
    case rel=>exact ⟨r,q,_,_,d :: tail,rfl,by omega,rfl,rfl,by omega,by omega,HN⟩
end Go.Proofs.YtkokdafkjjcgoaaGreatDoor
