/- Where parts begin: the folder's. -/
import Derived.Test.YtlcfejgjeljjdaaGreatDoorFoldX
import Derived.Test.YtlcfejgjeljjdaaGreatDoorMg13
namespace Go.Proofs.YtlcfejgjeljjdaaGreatDoor
open Go.RowKit
structure FrInv (w:World) (t:List Nd) (wy:World) (vo vs:Value) (i:Nat) (pre st:List Nat):Prop where
 rest:beginsF t 0 [] = (beginsF (t.drop i) i st).map fun r=>(pre ++ r.1,r.2)
 len:pre.length = i
 row:wy.ownsRow w.heap.size 3 1 vo i (pre.map natV)
 stk:wy.ownsRow w.heap.size 3 1 vs st.length (st.reverse.map natV)
 apart:vo.ownBlock = none ∨ vo.ownBlock ≠ vs.ownBlock
 stl:st.length ≤ i
 below:Below w.heap.size w wy
theorem own_blk {w:World} {B n size:Nat} {T:TypeId} {v:Value} {xs:List Value} (h:w.ownsRow B T size v n xs):v.ownBlock = none ∨ ∃ f,v.ownBlock = some f ∧ B ≤ f ∧ f < w.heap.size:=by
 rcases h.2 with ⟨rfl,_⟩ | ⟨q,_,_,rfl,hb,hq,_⟩
 ·exact .inl rfl
 ·exact .inr ⟨q,rfl,hb,lt_of_heap hq⟩
structure FrMid (w:World) (t:List Nd) (wy:World) (vo:Value) (g cap i a:Nat) (pre st:List Nat):Prop where
 len:pre.length = i
 row:wy.ownsRow w.heap.size 3 1 vo i (pre.map natV)
 stk:wy.ownsRow w.heap.size 3 1 (.slice (some ⟨g,0,none⟩) (a :: st).length cap) (a :: st).length ((a :: st).reverse.map natV)
 apart:vo.ownBlock ≠ some g
 below:Below w.heap.size w wy
theorem FrInv.push {w wy w4 w5:World} {t:List Nd} {vo vs:Value} {i a g5 cp5:Nat} {pre st:List Nat} (h:FrInv w t wy vo vs i pre st) {q m:Nat} (hq:st.length = q + m) (hb:Below wy.heap.size wy w4)
 (hown:w5.ownsRow w.heap.size 3 1 (.slice (some ⟨g5,0,none⟩) (q + 1) cp5) (q + 1) ((st.drop m).reverse.map natV ++ [.int .i64 (a:Int)])) (hgrow:w4.grownBy w5 vs.ownBlock) (hat:vs.ownBlock = some g5 ∨ g5 = w4.heap.size):FrMid w t w5 vo g5 cp5 i a pre (st.drop m):=by
 have e:(a :: st.drop m).length = q + 1:=by simp;omega
 refine ⟨h.len,(h.row.belowed hb).kept hgrow h.apart,?_,?_,(h.below.trans (hb.mono h.below.size)).grown hgrow (Nat.le_trans h.below.size hb.size) (fun k hk=>?_)⟩
 ·rw [e,List.reverse_cons,List.map_append]
  exact hown
 ·rcases own_blk h.row with hn | ⟨f,hf,h1,h2⟩
  ·rw [hn];simp
  ·rcases hat with h' | h'
   ·rw [← h']
    rcases h.apart with h3 | h3
    ·rw [h3] at hf;cases hf
    ·exact h3
   ·have:=hb.size
    rw [hf]
    simp only [ne_eq,Option.some.injEq]
    omega
 ·rcases own_blk h.stk with hn | ⟨f,hf,h1,h2⟩
  ·rw [hn] at hk;cases hk
  ·rw [hf] at hk
   have:=Option.some.inj hk
   omega
theorem FrMid.push {w wy w4 w5:World} {t:List Nd} {vo:Value} {g cap i a f5 cp5:Nat} {pre st:List Nat} (h:FrMid w t wy vo g cap i a pre st) (hst:st.length ≤ i) (hb:Below wy.heap.size wy w4)
 (hown:w5.ownsRow w.heap.size 3 1 (.slice (some ⟨f5,0,none⟩) (i + 1) cp5) (i + 1) (pre.map natV ++ [.int .i64 (a:Int)])) (hgrow:w4.grownBy w5 vo.ownBlock) (hat:vo.ownBlock = some f5 ∨ f5 = w4.heap.size)
 (hrest:beginsF t 0 [] = (beginsF (t.drop (i + 1)) (i + 1) (a :: st)).map fun r=>(pre ++ [a] ++ r.1,r.2)):FrInv w t w5 (.slice (some ⟨f5,0,none⟩) (i + 1) cp5) (.slice (some ⟨g,0,none⟩) (a :: st).length cap) (i + 1) (pre ++ [a]) (a :: st):=by
 obtain ⟨_,_,hg1,hg2⟩:=own_at h.stk
 refine ⟨hrest,by rw [List.length_append,h.len];rfl,by rw [List.map_append];exact hown,(h.stk.belowed hb).kept hgrow (.inr (by simp only [Value.ownBlock];exact fun h'=>h.apart h'.symm)),.inr ?_,by rw [List.length_cons];omega,(h.below.trans (hb.mono h.below.size)).grown hgrow (Nat.le_trans h.below.size hb.size) (fun k hk=>?_)⟩
 ·simp only [Value.ownBlock,ne_eq,Option.some.injEq]
  rcases hat with h' | h'
  ·intro e
   exact h.apart (by rw [h',e])
  ·have:=hb.size
   omega
 ·rcases own_blk h.row with hn | ⟨f,hf,h1,h2⟩
  ·rw [hn] at hk;cases hk
  ·rw [hf] at hk
   have:=Option.some.inj hk
   omega
theorem FrInv.top {w wy:World} {t:List Nd} {vo:Value} {g cap i:Nat} {pre st:List Nat} (h:FrInv w t wy vo (.slice (some ⟨g,0,none⟩) st.length cap) i pre st) {q m:Nat} (hq:st.length = q + m) (hm:0 < m):wy.cell? ⟨g,q,none⟩ = some (.int .i64 ((st.getD (m - 1) 0:Nat):Int)):=by
 rw [h.stk.cellAt q (by omega),List.getElem?_map,List.getElem?_reverse (by omega),show st.length - 1 - q = m - 1 by omega,List.getElem?_eq_getElem (by omega)]
 simp [natV,List.getD_eq_getElem?_getD,List.getElem?_eq_getElem (show m - 1 < st.length by omega)]
theorem FrInv.node {w wy:World} {t:List Nd} {vo:Value} {g cap i:Nat} {pre st:List Nat} (h:FrInv w t wy vo (.slice (some ⟨g,0,none⟩) st.length cap) i pre st) {q m:Nat} (hq:st.length = q + m):wy.ownsRow w.heap.size 3 1 (.slice (some ⟨g,0,none⟩) q cap) q ((st.drop m).reverse.map natV):=by
 have:=own_take h.stk (m:=q) (by omega)
 rw [Nat.mul_one,← List.map_take,show q = st.length - m by omega,rev_take st m (by omega)] at this
 rw [show q = st.length - m by omega]
 exact this
theorem own_form {w:World} {B size:Nat} {T:TypeId} {v:Value} {n:Nat} {xs:List Value} (h:w.ownsRow B T size v n xs):(v = .slice none 0 0 ∧ n = 0) ∨ ∃ g cap,v = .slice (some ⟨g,0,none⟩) n cap:=by
 rcases h.2 with h | ⟨q,c,_,h,_⟩
 ·exact .inl h
 ·exact .inr ⟨q,c,h⟩
theorem begins_goes {t:List Nd} {fr pre st:List Nat} {i:Nat} (hb:beginsN t = some fr) (h:beginsF t 0 [] = (beginsF (t.drop i) i st).map fun r=>(pre ++ r.1,r.2)) {x:Nd} (hx:t.drop i = x :: t.drop (i + 1)):0 ≤ x.n ∧ x.n ≤ st.length:=by
 unfold beginsN at hb
 rw [h,hx,beginsF] at hb
 by_cases hc:x.n < 0 ∨ (st.length:Int) < x.n
 ·rw [if_pos hc] at hb;cases hb
 ·omega
theorem begins_end {t:List Nd} {fr pre st:List Nat} (hb:beginsN t = some fr) (h:beginsF t 0 [] = (beginsF (t.drop t.length) t.length st).map fun r=>(pre ++ r.1,r.2)):pre = fr:=by
 unfold beginsN at hb
 rw [h,List.drop_length,beginsF] at hb
 simp only [Option.map_some,List.append_nil] at hb
 split at hb
 ·rename_i f s he
  obtain ⟨rfl,_⟩:=Prod.mk.inj (Option.some.inj he)
  exact Option.some.inj hb
 ·cases hb
set_option maxRecDepth 100000 in
set_option maxHeartbeats 8000000 in
theorem fronts_ok (a:Option Addr) (cap:Nat) (t:List Nd) (fr:List Nat) (w:World) (hI:IsNds w.heap.size w a t) (hl:t.length ≤ 4096) (hb:beginsN t = some fr) :
 Calls Tryz.prog 46 #[.slice a t.length cap] w fun e w'=>(∃ v,e = .returned v ∧ NatRow w' w.heap.size v fr) ∧ Below w.heap.size w w':=by
 have HI:=Hd hI
 have HBn:=Hd hb
 have hli:(t.length:Int) ≤ 4096:=by omega
 obtain ⟨i0,hi,hz0,hz1,hz2⟩:=info_parts infoInt
 have HI0:=Hd (And.intro hi (And.intro hz0 (And.intro hz1 hz2)))
 clear hi hz0 hz1 hz2 hI hb
 have HB0:=Hd (show FrInv w t w (.slice none 0 0) (.slice none 0 0) 0 [] [] from ⟨by simp,rfl,⟨rfl,.inl ⟨rfl,rfl⟩⟩,⟨rfl,.inl ⟨rfl,rfl⟩⟩,.inl rfl,Nat.le_refl _,Below.refl _ _⟩)
 go_enter Tryz.func46,Tryz.ntmps46
 go_wp2_with fail
 go_loopg [3,4,10] t.length (fun m v3 v4 v10 wy=>∃ (i:Nat) (pre st:List Nat),i ≤ t.length ∧ i + m = t.length ∧ v10 = .int .i64 (i:Int) ∧ Hid (FrInv w t wy v3 v4 i pre st))
 case atStart=>exact ⟨0,[],[],by omega,by omega,rfl,HB0⟩
 case round=>
  obtain ⟨i,pre,st,hi,him,rfl,HG⟩:=hrel
  have hstl:(st.length:Int) ≤ 4096:=by have:=HG.out.stl;omega
  by_cases hlt:i < t.length
  ·obtain ⟨b,off,ha,hbl,x0,x1,x2,x3,x4,x5⟩:=nds_at HI.out hlt
   subst ha
   rw [← HG.out.below.cell hbl] at x0 x1 x2 x3 x4 x5
   have HDr:=Hd (show t.drop i = t[i] :: t.drop (i + 1) from List.drop_eq_getElem_cons hlt)
   have hn:=begins_goes HBn.out HG.out.rest HDr.out
   generalize t[i]'hlt = x at *
   obtain ⟨kk,n,p,ii,s,ty⟩:=x
   simp only at x0 x1 x2 x3 x4 x5 hn
   obtain ⟨m,rfl⟩:∃ m:Nat,n = (m:Int):=⟨n.toNat,by omega⟩
   obtain ⟨q,hq⟩:∃ q,st.length = q + m:=⟨st.length - m,by omega⟩
   go_upto_region 5 with fail
   have hx2:(wr.alloc (ndObj ⟨kk,(m:Int),p,ii,s,ty⟩)).heap[wr.heap.size]? = some (.cells #[.int .i64 kk,.int .i64 (m:Int),.int .i64 p,.int .i64 ii,.string s,.string ty] 42 (0,0)):=heap_alloc_new _ _
   have hb2:Below wr.heap.size wr (wr.alloc (ndObj ⟨kk,(m:Int),p,ii,s,ty⟩)):=(Below.refl _ _).alloc (Nat.le_refl _) _
   simp only [ndObj] at hx2 hb2
   generalize wr.alloc (.cells #[.int .i64 kk,.int .i64 (m:Int),.int .i64 p,.int .i64 ii,.string s,.string ty] 42) = w2 at *
   obtain ⟨⟨_,d1,_⟩,_⟩:=six_block hx2
   have HX2:=Hd hx2
   have HB2:=Hd hb2
   clear x0 x1 x2 x3 x4 x5 hx2 hb2
   -- BEGIN
   have how:=HG.out.stk
   rcases own_form how with ⟨rfl,h0⟩ | ⟨g',c',rfl⟩
   ·obtain rfl:m = 0:=by omega
    obtain rfl:q = 0:=by omega
    have t3:decide (0 < ((0:Nat):Int)) = false:=by simp
    obtain ⟨L,hL⟩:∃ L,L = (st.drop 0).reverse.map natV:=⟨_,rfl⟩
    rw [h0] at how
    have how:wr.ownsRow w.heap.size 3 1 (.slice none 0 0) 0 L:=by rw [hL];exact how
    have HOw:=Hd (how.belowed HB2.out)
    have HL:=Hd hL
    have HSt:=Hd (begins_step (a:=i) HG.out.rest HDr.out (by simp) (by simp) (by simp))
    simp only [Int.toNat_natCast] at HSt
    clear how hL
    go_wp2_with (at_builtin;go_loud (refine wpList_append_lies _ rfl _ _ _ rfl w.heap.size 3 i0 (.int .i64 0) 1 8 Tryz.underlying79 HI0.out.1 HI0.out.2.1 HI0.out.2.2.1 HI0.out.2.2.2 rfl (by decide) (.slice none 0 0) 0 L rfl (HOw.out.belowed (ba1 _ _)) ⟨_,0,none⟩ 1 1 [.int .i64 (i:Int)] rfl rfl (World.news_of_block (cs:=#[.int .i64 (i:Int)]) (heap_alloc_new _ _)) (by simp [Value.oneCell']) (by decide) (by unfold maxLen;omega) (by omega) (Nat.le_trans (Nat.le_trans HG.out.below.size HB2.out.size) (ba1 _ _).size) _ rfl ?_))
    intro g5 cp5 w5 hown5 hgrow5 hat5 hlt5
    rw [HL.out] at hown5
    have HM5:=Hd (HG.out.push hq (HB2.out.trans ((ba1 _ _).mono HB2.out.size)) hown5 hgrow5 (by rcases hat5 with h | h;exact .inl h;exact .inr (by rw [h];simp)))
    clear hown5 hgrow5 hat5 hlt5
    go_wp2_with (at_builtin;go_loud (refine wpList_append_lies _ rfl _ _ _ rfl w.heap.size 3 i0 (.int .i64 0) 1 8 Tryz.underlying79 HI0.out.1 HI0.out.2.1 HI0.out.2.2.1 HI0.out.2.2.2 rfl (by decide) (u3) i (pre.map natV) rfl (HM5.out.row.belowed (ba1 _ _)) ⟨_,0,none⟩ 1 1 [.int .i64 (i:Int)] rfl rfl (World.news_of_block (cs:=#[.int .i64 (i:Int)]) (heap_alloc_new _ _)) (by simp [Value.oneCell']) (by decide) (by unfold maxLen;omega) (by omega) (Nat.le_trans HM5.out.below.size (ba1 _ _).size) _ rfl ?_))
    intro f6 cp6 w6 hown6 hgrow6 hat6 hlt6
    have HN6:=Hd (HM5.out.push (by have:=HG.out.stl;rw [List.length_drop];omega) (ba1 _ _) hown6 hgrow6 (by rcases hat6 with h | h;exact .inl h;exact .inr (by rw [h];simp)) HSt.out)
    clear hown6 hgrow6 hat6 hlt6
    go_wp2_with fail
    go_roundg (t.length - (i + 1))
    case measure=>omega
    case rel=>exact ⟨i + 1,pre ++ [i],i :: st.drop 0,by omega,by omega,by rw [Int.natCast_add];rfl,(by rw [show (i :: st.drop 0).length = 0 + 1 by first | (simp;omega) | (have h00:st = []:=List.eq_nil_of_length_eq_zero h0;rw [h00];rfl)] at HN6;exact HN6)⟩
   ·have hqc:q ≤ c':=by have:=(own_at how).1;omega
    have how:=HG.out.node hq
    obtain ⟨L,hL⟩:∃ L,L = (st.drop m).reverse.map natV:=⟨_,rfl⟩
    rw [← hL] at how
    have HOw:=Hd (how.belowed HB2.out)
    have HL:=Hd hL
    clear how hL
    by_cases hm0:0 < m
    ·have t3:decide (0 < (m:Int)) = true:=by simpa using hm0
     have HSt:=Hd (begins_step (a:=st.getD (m - 1) 0) HG.out.rest HDr.out (by simp) (by simp;omega) (by simp [hm0]))
     simp only [Int.toNat_natCast] at HSt
     have htop:=HG.out.top hq hm0
     rw [← HB2.out.cell (own_at HG.out.stk).2.2.2] at htop
     generalize st.getD (m - 1) 0 = av at *
     go_wp2_with (at_builtin;go_loud (refine wpList_append_lies _ rfl _ _ _ rfl w.heap.size 3 i0 (.int .i64 0) 1 8 Tryz.underlying79 HI0.out.1 HI0.out.2.1 HI0.out.2.2.1 HI0.out.2.2.2 rfl (by decide) (.slice (some ⟨g',0,none⟩) q c') q L rfl (HOw.out.belowed (ba1 _ _)) ⟨_,0,none⟩ 1 1 [.int .i64 (av:Int)] rfl rfl (World.news_of_block (cs:=#[.int .i64 (av:Int)]) (heap_alloc_new _ _)) (by simp [Value.oneCell']) (by decide) (by unfold maxLen;omega) (by omega) (Nat.le_trans (Nat.le_trans HG.out.below.size HB2.out.size) (ba1 _ _).size) _ rfl ?_))
     intro g5 cp5 w5 hown5 hgrow5 hat5 hlt5
     rw [HL.out] at hown5
     have HM5:=Hd (HG.out.push hq (HB2.out.trans ((ba1 _ _).mono HB2.out.size)) hown5 hgrow5 (by rcases hat5 with h | h;exact .inl h;exact .inr (by rw [h];simp)))
     clear hown5 hgrow5 hat5 hlt5
     go_wp2_with (at_builtin;go_loud (refine wpList_append_lies _ rfl _ _ _ rfl w.heap.size 3 i0 (.int .i64 0) 1 8 Tryz.underlying79 HI0.out.1 HI0.out.2.1 HI0.out.2.2.1 HI0.out.2.2.2 rfl (by decide) (u3) i (pre.map natV) rfl (HM5.out.row.belowed (ba1 _ _)) ⟨_,0,none⟩ 1 1 [.int .i64 (av:Int)] rfl rfl (World.news_of_block (cs:=#[.int .i64 (av:Int)]) (heap_alloc_new _ _)) (by simp [Value.oneCell']) (by decide) (by unfold maxLen;omega) (by omega) (Nat.le_trans HM5.out.below.size (ba1 _ _).size) _ rfl ?_))
     intro f6 cp6 w6 hown6 hgrow6 hat6 hlt6
     have HN6:=Hd (HM5.out.push (by have:=HG.out.stl;rw [List.length_drop];omega) (ba1 _ _) hown6 hgrow6 (by rcases hat6 with h | h;exact .inl h;exact .inr (by rw [h];simp)) HSt.out)
     clear hown6 hgrow6 hat6 hlt6
     go_wp2_with fail
     go_roundg (t.length - (i + 1))
     case measure=>omega
     case rel=>exact ⟨i + 1,pre ++ [av],av :: st.drop m,by omega,by omega,by rw [Int.natCast_add];rfl,(by rw [show (av :: st.drop m).length = q + 1 by first | (simp;omega) | (have h00:st = []:=List.eq_nil_of_length_eq_zero h0;rw [h00];rfl)] at HN6;exact HN6)⟩
    ·have t3:decide (0 < (m:Int)) = false:=by simp;omega
     have HSt:=Hd (begins_step (a:=i) HG.out.rest HDr.out (by simp) (by simp;omega) (by simp [hm0]))
     simp only [Int.toNat_natCast] at HSt
     go_wp2_with (at_builtin;go_loud (refine wpList_append_lies _ rfl _ _ _ rfl w.heap.size 3 i0 (.int .i64 0) 1 8 Tryz.underlying79 HI0.out.1 HI0.out.2.1 HI0.out.2.2.1 HI0.out.2.2.2 rfl (by decide) (.slice (some ⟨g',0,none⟩) q c') q L rfl (HOw.out.belowed (ba1 _ _)) ⟨_,0,none⟩ 1 1 [.int .i64 (i:Int)] rfl rfl (World.news_of_block (cs:=#[.int .i64 (i:Int)]) (heap_alloc_new _ _)) (by simp [Value.oneCell']) (by decide) (by unfold maxLen;omega) (by omega) (Nat.le_trans (Nat.le_trans HG.out.below.size HB2.out.size) (ba1 _ _).size) _ rfl ?_))
     intro g5 cp5 w5 hown5 hgrow5 hat5 hlt5
     rw [HL.out] at hown5
     have HM5:=Hd (HG.out.push hq (HB2.out.trans ((ba1 _ _).mono HB2.out.size)) hown5 hgrow5 (by rcases hat5 with h | h;exact .inl h;exact .inr (by rw [h];simp)))
     clear hown5 hgrow5 hat5 hlt5
     go_wp2_with (at_builtin;go_loud (refine wpList_append_lies _ rfl _ _ _ rfl w.heap.size 3 i0 (.int .i64 0) 1 8 Tryz.underlying79 HI0.out.1 HI0.out.2.1 HI0.out.2.2.1 HI0.out.2.2.2 rfl (by decide) (u3) i (pre.map natV) rfl (HM5.out.row.belowed (ba1 _ _)) ⟨_,0,none⟩ 1 1 [.int .i64 (i:Int)] rfl rfl (World.news_of_block (cs:=#[.int .i64 (i:Int)]) (heap_alloc_new _ _)) (by simp [Value.oneCell']) (by decide) (by unfold maxLen;omega) (by omega) (Nat.le_trans HM5.out.below.size (ba1 _ _).size) _ rfl ?_))
     intro f6 cp6 w6 hown6 hgrow6 hat6 hlt6
     have HN6:=Hd (HM5.out.push (by have:=HG.out.stl;rw [List.length_drop];omega) (ba1 _ _) hown6 hgrow6 (by rcases hat6 with h | h;exact .inl h;exact .inr (by rw [h];simp)) HSt.out)
     clear hown6 hgrow6 hat6 hlt6
     go_wp2_with fail
     go_roundg (t.length - (i + 1))
     case measure=>omega
     case rel=>exact ⟨i + 1,pre ++ [i],i :: st.drop m,by omega,by omega,by rw [Int.natCast_add];rfl,(by rw [show (i :: st.drop m).length = q + 1 by first | (simp;omega) | (have h00:st = []:=List.eq_nil_of_length_eq_zero h0;rw [h00];rfl)] at HN6;exact HN6)⟩
  ·obtain rfl:i = t.length:=by omega
   have he:=begins_end HBn.out HG.out.rest
   subst he
   have HR:=Hd (show NatRow wr w.heap.size u3 pre from by unfold NatRow;rw [HG.out.len];exact HG.out.row)
   go_wp2_with fail
   go_ret
   exact ⟨⟨_,rfl,HR.out⟩,HG.out.below⟩
end Go.Proofs.YtlcfejgjeljjdaaGreatDoor
