/- The type of any part, what it comes to: the reference of fol · Trees joined; a number written as a tree: the program. · A part with its constants reckoned: the program. -/
import Derived.Test.YtlcfejgjeljjdaaGreatDoorFoldRF
import Derived.Test.YtlcfejgjeljjdaaGreatDoorMg22
namespace Go.Proofs.YtlcfejgjeljjdaaGreatDoor
open Go.RowKit
theorem un_back {x:Nd} {L:List Sr} (hk:x.kind = 4) (hw:wellN x = true):Lib.containsS unMarks x.text = shN L x:=by
 rcases hs:shN L x with _ | _
 ·unfold shN at hs
  rw [if_neg (by omega),if_pos hk] at hs
  simp only [Bool.not_eq_false',Bool.or_eq_true,decide_eq_true_eq] at hs
  rcases hs with h | h <;> rw [h] <;> decide
 ·exact un_marks hk hw hs
theorem num_kept {x:Nd} (hw:wellN x = true) (hk:x.kind = 1):asI x.int x.type = x.int:=by
 rcases good_number hw hk with ⟨ht,h1,h2⟩ | ⟨ht,h1,h2⟩
 ·rw [ht];unfold asI;rw [if_pos rfl];omega
 ·rw [ht];unfold asI;rw [if_neg (by decide),if_neg (by decide),if_neg (by decide),sgn32];omega
section
variable {a:Option Addr} {cap:Nat} {t:List Nd} {l:Option Addr} {lc:Nat} {L:List Sr} {mv:List Value} {fr:List Nat}
theorem such_ok (hl:t.length ≤ 4096) (hb:beginsN t = some fr) (hlc:L.length ≤ lc) (hcm:lc ≤ maxLen) (k:Nat):k < t.length → GoodT (trAt t fr k) → ∀ w,RAt w a t l L mv → Calls Tryz.prog 24 #[.slice a t.length cap,.slice l L.length lc,.int .i64 (k:Int)] w (SuchEnd (shapT L (trAt t fr k)) (kindT (trAt t fr k)) w):=by
 have hf:=formed_of hb
 induction k using Nat.strongRecOn with
 | ind k ih=>
   intro hk hg w hA
   have hx:=List.getElem?_eq_getElem hk
   have hgx:t.getD k nd0 = t[k]'hk:=by rw [List.getD_eq_getElem?_getD,hx];rfl
   have e:=trAt_eq hf k
   rw [hgx] at e
   rw [e] at hg ⊢
   obtain ⟨hn,⟨hw,_⟩,hgs⟩:=good_node.1 hg
   have hgp:∀ p ∈ partsAt t fr k,GoodT (trAt t fr p):=fun p hp=>hgs _ (List.mem_map.2 ⟨p,hp,rfl⟩)
   have hpl:∀ p ∈ partsAt t fr k,p < t.length:=fun p hp=>by have:=hf.parts_lt hp;omega
   obtain ⟨p0,p1,p2,p3⟩:=good_parts hn hw
   rw [List.length_map] at p0 p1 p2 p3
   have key:=such_step (cap:=cap) (G:=fun p=>kindT (trAt t fr p)) (K:=fun p=>shapT L (trAt t fr p)) w hA hl hb hx rfl hlc hcm
    (fun p hp hs=>(eval_kind (sizes_ok L) _ (hgp p hp) hs).1) (fun h=>p1 (.inl h)) p2 p3 (fun h=>un_back h hw)
    (fun p hp w' h'=>ih p (hf.parts_lt hp) (hpl p hp) (hgp p hp) w' h')
   rw [shapT_node,kindT_node,List.map_map]
   have hs:shapAll L ((partsAt t fr k).map (trAt t fr)) = (partsAt t fr k).all fun p=>shapT L (trAt t fr p):=by
    unfold shapAll
    rw [List.all_map]
    rfl
   rw [hs]
   exact key _ rfl _ rfl
theorem value_ok (hl:t.length ≤ 4096) (hb:beginsN t = some fr) (hlc:L.length ≤ lc) (hcm:lc ≤ maxLen) (k:Nat):k < t.length → GoodT (trAt t fr k) → shapT L (trAt t fr k) = true → ∀ w,RAt w a t l L mv → Calls Tryz.prog 25 #[.slice a t.length cap,.slice l L.length lc,.int .i64 (k:Int)] w (ValEnd (evalT L (trAt t fr k)) w):=by
 have hf:=formed_of hb
 induction k using Nat.strongRecOn with
 | ind k ih=>
   intro hk hg hsh w hA
   have hsu:=fun w' (h:RAt w' a t l L mv)=>hsh ▸ such_ok (cap:=cap) hl hb hlc hcm k hk hg w' h
   have hx:=List.getElem?_eq_getElem hk
   have hgx:t.getD k nd0 = t[k]'hk:=by rw [List.getD_eq_getElem?_getD,hx];rfl
   have e:=trAt_eq hf k
   rw [hgx] at e
   have hg':=hg
   have hsh':=hsh
   rw [e] at hg' hsh'
   obtain ⟨hn,⟨hw,_⟩,hgs⟩:=good_node.1 hg'
   rw [shapT_node,Bool.and_eq_true] at hsh'
   obtain ⟨hsa,hsx⟩:=hsh'
   have hgp:∀ p ∈ partsAt t fr k,GoodT (trAt t fr p):=fun p hp=>hgs _ (List.mem_map.2 ⟨p,hp,rfl⟩)
   have hsp:∀ p ∈ partsAt t fr k,shapT L (trAt t fr p) = true:=fun p hp=>List.all_eq_true.1 hsa _ (List.mem_map.2 ⟨p,hp,rfl⟩)
   have hpl:∀ p ∈ partsAt t fr k,p < t.length:=fun p hp=>by have:=hf.parts_lt hp;omega
   obtain ⟨p0,p1,p2,p3⟩:=good_parts hn hw
   rw [List.length_map] at p0 p1 p2 p3
   have hek:=fun p (hp:p ∈ partsAt t fr k)=>eval_kind (sizes_ok L) _ (hgp p hp) (hsp p hp)
   have key:=value_step (cap:=cap) (G:=fun p=>kindT (trAt t fr p)) (V:=fun p=>evalT L (trAt t fr p)) (kd:=kindT (trAt t fr k)) w hA hl hb hx rfl hlc hcm
    (shN_kinds hsx) p1 p2 p3 (fun h=>num_kept hw h) (fun h=>un_marks h hw hsx) (fun h=>bin_marks h hw)
    (fun p hp=>(hek p hp).1) (fun p hp=>(hek p hp).2) hsu
    (fun p hp w' h'=>(hsp p hp) ▸ such_ok (cap:=cap) hl hb hlc hcm p (hpl p hp) (hgp p hp) w' h')
    (fun p hp w' h'=>ih p (hf.parts_lt hp) (hpl p hp) (hgp p hp) (hsp p hp) w' h')
   rw [e] at key ⊢
   rw [evalT_node,List.map_map]
   exact key
end
end Go.Proofs.YtlcfejgjeljjdaaGreatDoor
namespace Go.Proofs.YtlcfejgjeljjdaaGreatDoor
open Go.RowKit
def TreeVals (B:Nat) (w:World) (Vs:List Value) (Ts:List (List Nd)):Prop:=Vs.length = Ts.length ∧ ∀ (i:Nat) v T,Vs[i]? = some v → Ts[i]? = some T → T ≠ [] ∧ ∃ a c,v = .slice a T.length c ∧ IsNds B w a T
theorem nd_row_nil (w:World) (base:Nat):NdRow w base (.slice none 0 0) []:=⟨rfl,.inl ⟨rfl,rfl⟩⟩
theorem take_flat {Ts:List (List Nd)} {i:Nat} {T:List Nd} (h:Ts[i]? = some T):(Ts.take (i + 1)).flatten = (Ts.take i).flatten ++ T:=by
 rw [List.take_add_one,h]
 simp
theorem take_flat_le (Ts:List (List Nd)) (i:Nat):(Ts.take i).flatten.length ≤ Ts.flatten.length:=by
 have:Ts.flatten = (Ts.take i).flatten ++ (Ts.drop i).flatten:=by rw [← List.flatten_append,List.take_append_drop]
 rw [this,List.length_append];omega
theorem len_flat {Ts:List (List Nd)} (h:∀ T ∈ Ts,T ≠ []):Ts.length ≤ Ts.flatten.length:=by
 induction Ts with
 | nil=>simp
 | cons T r ih=>
   have h1:=List.length_pos_iff.2 (h T List.mem_cons_self)
   have h2:=ih fun S hS=>h S (List.mem_cons_of_mem _ hS)
   rw [List.flatten_cons,List.length_append,List.length_cons];omega
theorem joined_nil (w:World):Calls Tryz.prog 73 #[.slice none 0 0] w fun e w'=>e = .returned (.slice none 0 0) ∧ w' = w:=by
 go_enter Tryz.func73,Tryz.ntmps73
 go_wp2_with fail
 go_loopg [3,8] 0 (fun m v3 v8 wy=>m = 0 ∧ v3 = .slice none 0 0 ∧ v8 = .int .i64 0 ∧ wy = w)
 case atStart=>exact ⟨rfl,rfl,rfl,by trivial⟩
 case round=>
  obtain ⟨rfl,rfl,rfl,rfl⟩:=hrel
  go_wp2_with fail
  go_ret
  exact ⟨rfl,rfl⟩
set_option maxHeartbeats 4000000 in
theorem joined_ok (bb oo cap:Nat) (Vs:List Value) (Ts:List (List Nd)) (w:World) (hb:bb < w.heap.size) (hc:∀ (i:Nat) v,Vs[i]? = some v → w.cell? ⟨bb,oo + i,none⟩ = some v) (hT:TreeVals w.heap.size w Vs Ts) (hsum:Ts.flatten.length ≤ 4096) :
 Calls Tryz.prog 73 #[.slice (some ⟨bb,oo,none⟩) Ts.length cap] w fun e w'=>(∃ v,e = .returned v ∧ NdRow w' w.heap.size v Ts.flatten) ∧ Below w.heap.size w w':=by
 obtain ⟨i0,hi,hz0,hz1,hz2⟩:=info_parts infoNd
 have HI0:=Hd (And.intro hi (And.intro hz0 (And.intro hz1 hz2)))
 have HLen:=Hd hT.1
 have hml:Ts.length ≤ 4096:=by
  refine Nat.le_trans (len_flat fun T hTm=>?_) hsum
  obtain ⟨i,hi,rfl⟩:=List.mem_iff_getElem.1 hTm
  have hvl:i < Vs.length:=by rw [hT.1];exact hi
  exact (hT.2 i _ _ (List.getElem?_eq_getElem hvl) (List.getElem?_eq_getElem hi)).1
 have HC:=Hd hc
 have HT:=Hd hT.2
 clear hi hz0 hz1 hz2 hc hT
 have H0:=Hd (show (NdRow w w.heap.size (.slice none 0 0) (Ts.take 0).flatten) ∧ Below w.heap.size w w from ⟨nd_row_nil _ _,Below.refl _ _⟩)
 go_enter Tryz.func73,Tryz.ntmps73
 go_wp2_with fail
 go_loopg [3,8] Ts.length (fun m v3 v8 wy=>∃ i:Nat,i ≤ Ts.length ∧ i + m = Ts.length ∧ v8 = .int .i64 (i:Int) ∧ Hid (NdRow wy w.heap.size v3 (Ts.take i).flatten ∧ Below w.heap.size w wy))
 case atStart=>exact ⟨0,by omega,by omega,rfl,H0⟩
 case round=>
  obtain ⟨i,hi,him,rfl,HG⟩:=hrel
  have hsl:=take_flat_le Ts i
  by_cases hlt:i < Ts.length
  ·have hx:=List.getElem?_eq_getElem hlt
   have hvl:i < Vs.length:=by rw [HLen.out];exact hlt
   have c0:=HC.out i _ (List.getElem?_eq_getElem hvl)
   rw [← HG.out.2.cell hb] at c0
   obtain ⟨hne,a,c,hv,hI⟩:=HT.out i _ _ (List.getElem?_eq_getElem hvl) hx
   rw [hv] at c0
   obtain ⟨ab,ao,rfl,_⟩:=hI hne
   have HN:=Hd (take_flat hx)
   have hsl2:=take_flat_le Ts (i + 1)
   rw [HN.out,List.length_append] at hsl2
   have HI:=Hd ((hI.below HG.out.2 (Nat.le_refl _)).mono HG.out.2.size)
   generalize Ts[i]'hlt = T at *
   have HL:=Hd (flat_len nd_len T)
   have HO:=Hd HG.out.1
   clear hx hvl hv hI hne
   generalize (Ts.take i).flatten = pre at *
   unfold NdRow at HO
   have hTl:T.length ≤ 4096:=by omega
   have hpl:pre.length ≤ 4096:=by omega
   go_wp2_with (at_builtin;go_loud (refine wpList_append_own _ rfl _ _ _ rfl w.heap.size 42 i0 _ 6 64 Tryz.underlying23 HI0.out.1 HI0.out.2.1 HI0.out.2.2.1 HI0.out.2.2.2 rfl (by decide) u3 pre.length (pre.flatMap ndCells) rfl HO.out ⟨ab,ao,none⟩ T.length c (T.flatMap ndCells) rfl HL.out (sl_news nd_len HI.out) (nd_one T) (by unfold maxLen;omega) (by omega) HG.out.2.size ?_))
   intro v' w' hown hgrow _
   have hb':Below w.heap.size w w':=HG.out.2.grown hgrow HG.out.2.size (fun k hk=>by
    rcases own_blk HO.out with hn | ⟨f,hf,h1,h2⟩
    ·rw [hn] at hk;cases hk
    ·rw [hf] at hk
     have:=Option.some.inj hk
     omega)
   have HR:=Hd (show NdRow w' w.heap.size v' (Ts.take (i + 1)).flatten ∧ Below w.heap.size w w' from ⟨by rw [HN.out];unfold NdRow;rw [List.length_append,List.flatMap_append];exact hown,hb'⟩)
   clear hown hgrow hb'
   go_wp2_with fail
   go_roundg (Ts.length - (i + 1))
   case measure=>omega
   case rel=>exact ⟨i + 1,by omega,by omega,by rw [Int.natCast_add];rfl,HR⟩
  ·obtain rfl:i = Ts.length:=by omega
   have HR:=Hd HG.out
   rw [List.take_length] at HR
   go_wp2_with fail
   go_ret
   exact ⟨⟨_,rfl,HR.out.1⟩,HR.out.2⟩
def WrittenEnd:Option Tr → World → Ending → World → Prop
 | some W,w,e,w'=>(∃ v,e = .returned (.tuple #[v,.bool true]) ∧ NdRow w' w.heap.size v W.flat) ∧ Below w.heap.size w w'
 | none,w,e,w'=>e = .returned (.tuple #[.slice none 0 0,.bool false]) ∧ Below w.heap.size w w'
theorem row_lit (w:World) {base:Nat} (hb:base ≤ w.heap.size) (cs:Array Value) (t:List Nd) (h:cs.toList = t.flatMap ndCells) (hl:t.length ≤ 4096):NdRow (w.alloc (.cells cs 42)) base (.slice (some ⟨w.heap.size,0,none⟩) t.length t.length) t:=by
 unfold NdRow
 rw [← h]
 exact World.ownsRow_lit w cs t.length hb (by unfold maxLen;omega) (by have:=congrArg List.length h;rw [flat_len nd_len,Array.length_toList] at this;exact this)
set_option maxHeartbeats 4000000 in
theorem written_ok (v:Num) (at_:Int) (hn:-4294967296 ≤ v.2 ∧ v.2 ≤ 4294967296) (w:World):Calls Tryz.prog 72 #[.agg #[.string v.1,.int .i64 v.2],.int .i64 at_] w (WrittenEnd (writeT v at_) w):=by
 obtain ⟨t,n⟩:=v
 have hN:=numAt_new w (t,n)
 have hb:=ba1 w (numO (t,n))
 simp only [numO] at hN hb hn ⊢
 have HN:=Hd hN
 have HB:=Hd hb
 clear hN hb
 by_cases hti:t = iText12
 ·have q1:(t.toList == [105]) = true:=by rw [str_one];exact decide_eq_true hti
  by_cases hm:n = -2147483648
  ·have HW:=Hd (show writeT (t,n) at_ = none from by unfold writeT;rw [if_pos (.inr hm)])
   have q2:(n == -2147483648) = true:=by simpa using hm
   clear hti hm
   rw [HW.out]
   go_enter Tryz.func72,Tryz.ntmps72
   go_upto_region 1 with fail
   generalize w.alloc (.cells #[.string t,.int .i64 n] 50) = w1 at *
   obtain ⟨⟨x0,x1⟩,_⟩:=HN.out.cells
   go_wp2_with fail
   go_ret2
   exact ⟨rfl,HB.out⟩
  have q2:(n == -2147483648) = false:=by simpa using hm
  have HC:=Hd (show ¬ ((t ≠ iText12 ∧ t ≠ uText12) ∨ n = -2147483648) from by rintro (⟨h,_⟩ | h);exact h hti;exact hm h)
  have HTi:=Hd hti
  clear hti hm
  by_cases h0:0 ≤ n
  ·have HW:=Hd (show writeT (t,n) at_ = some (.node ⟨1,0,at_,n,⟨#[]⟩,t⟩ []) from by unfold writeT;rw [if_neg HC.out,if_pos h0])
   have q3:decide (0 ≤ n) = true:=by simpa using h0
   rw [HW.out]
   clear h0
   go_enter Tryz.func72,Tryz.ntmps72
   go_upto_region 1 with fail
   generalize w.alloc (.cells #[.string t,.int .i64 n] 50) = w1 at *
   obtain ⟨⟨x0,x1⟩,_⟩:=HN.out.cells
   go_wp2_with fail
   go_ret2
   exact ⟨⟨_,rfl,row_lit w1 HB.out.size _ [⟨1,0,at_,n,⟨#[]⟩,t⟩] rfl (by simp)⟩,HB.out.alloc HB.out.size _⟩
  ·have HW:=Hd (show writeT (t,n) at_ = some (.node ⟨4,1,at_,0,mSub,⟨#[]⟩⟩ [.node ⟨1,0,at_,-n,⟨#[]⟩,iText12⟩ []]) from by unfold writeT;rw [if_neg HC.out,if_neg h0])
   have q3:decide (0 ≤ n) = false:=by simpa using h0
   have e1:IntKind.i64.wrap (-n) = -n:=by rw [IntKind.wrap_i64];omega
   rw [HW.out]
   clear h0
   go_enter Tryz.func72,Tryz.ntmps72
   go_upto_region 1 with fail
   generalize w.alloc (.cells #[.string t,.int .i64 n] 50) = w1 at *
   obtain ⟨⟨x0,x1⟩,_⟩:=HN.out.cells
   go_wp2_with fail
   go_ret2
   exact ⟨⟨_,rfl,row_lit w1 HB.out.size _ [⟨1,0,at_,-n,⟨#[]⟩,iText12⟩,⟨4,1,at_,0,mSub,⟨#[]⟩⟩] rfl (by simp)⟩,HB.out.alloc HB.out.size _⟩
 have q1:(t.toList == [105]) = false:=by rw [str_one];exact decide_eq_false hti
 by_cases htu:t = uText12
 ·have q4:(t.toList == [117]) = true:=by rw [str_one];exact decide_eq_true htu
  by_cases hm:n = -2147483648
  ·have HW:=Hd (show writeT (t,n) at_ = none from by unfold writeT;rw [if_pos (.inr hm)])
   have q2:(n == -2147483648) = true:=by simpa using hm
   clear hti htu hm
   rw [HW.out]
   go_enter Tryz.func72,Tryz.ntmps72
   go_upto_region 1 with fail
   generalize w.alloc (.cells #[.string t,.int .i64 n] 50) = w1 at *
   obtain ⟨⟨x0,x1⟩,_⟩:=HN.out.cells
   go_wp2_with fail
   go_ret2
   exact ⟨rfl,HB.out⟩
  have q2:(n == -2147483648) = false:=by simpa using hm
  have HC:=Hd (show ¬ ((t ≠ iText12 ∧ t ≠ uText12) ∨ n = -2147483648) from by rintro (⟨_,h⟩ | h);exact h htu;exact hm h)
  clear hti htu hm
  by_cases h0:0 ≤ n
  ·have HW:=Hd (show writeT (t,n) at_ = some (.node ⟨1,0,at_,n,⟨#[]⟩,t⟩ []) from by unfold writeT;rw [if_neg HC.out,if_pos h0])
   have q3:decide (0 ≤ n) = true:=by simpa using h0
   rw [HW.out]
   clear h0
   go_enter Tryz.func72,Tryz.ntmps72
   go_upto_region 1 with fail
   generalize w.alloc (.cells #[.string t,.int .i64 n] 50) = w1 at *
   obtain ⟨⟨x0,x1⟩,_⟩:=HN.out.cells
   go_wp2_with fail
   go_ret2
   exact ⟨⟨_,rfl,row_lit w1 HB.out.size _ [⟨1,0,at_,n,⟨#[]⟩,t⟩] rfl (by simp)⟩,HB.out.alloc HB.out.size _⟩
  ·have HW:=Hd (show writeT (t,n) at_ = some (.node ⟨4,1,at_,0,mSub,⟨#[]⟩⟩ [.node ⟨1,0,at_,-n,⟨#[]⟩,iText12⟩ []]) from by unfold writeT;rw [if_neg HC.out,if_neg h0])
   have q3:decide (0 ≤ n) = false:=by simpa using h0
   have e1:IntKind.i64.wrap (-n) = -n:=by rw [IntKind.wrap_i64];omega
   rw [HW.out]
   clear h0
   go_enter Tryz.func72,Tryz.ntmps72
   go_upto_region 1 with fail
   generalize w.alloc (.cells #[.string t,.int .i64 n] 50) = w1 at *
   obtain ⟨⟨x0,x1⟩,_⟩:=HN.out.cells
   go_wp2_with fail
   go_ret2
   exact ⟨⟨_,rfl,row_lit w1 HB.out.size _ [⟨1,0,at_,-n,⟨#[]⟩,iText12⟩,⟨4,1,at_,0,mSub,⟨#[]⟩⟩] rfl (by simp)⟩,HB.out.alloc HB.out.size _⟩
 ·have q4:(t.toList == [117]) = false:=by rw [str_one];exact decide_eq_false htu
  have HW:=Hd (show writeT (t,n) at_ = none from by unfold writeT;rw [if_pos (.inl ⟨hti,htu⟩)])
  clear hti htu
  rw [HW.out]
  go_enter Tryz.func72,Tryz.ntmps72
  go_upto_region 1 with fail
  generalize w.alloc (.cells #[.string t,.int .i64 n] 50) = w1 at *
  obtain ⟨⟨x0,x1⟩,_⟩:=HN.out.cells
  go_wp2_with fail
  go_ret2
  exact ⟨rfl,HB.out⟩
end Go.Proofs.YtlcfejgjeljjdaaGreatDoor
namespace Go.Proofs.YtlcfejgjeljjdaaGreatDoor
open Go.RowKit
def FoldEnd (T:List Nd) (w:World) (e:Ending) (w':World):Prop:=(∃ v,e = .returned v ∧ NdRow w' w.heap.size v T) ∧ Below w.heap.size w w'
theorem ndRow_le {w:World} {base base':Nat} {v:Value} {T:List Nd} (h:NdRow w base v T) (hb:base' ≤ base):NdRow w base' v T:=own_le9 h hb
theorem foldEnd {T:List Nd} {w w1 w':World} {v:Value} (h:NdRow w' w1.heap.size v T) (h1:Below w.heap.size w w1) (hb:Below w.heap.size w w'):FoldEnd T w (.returned v) w':=⟨⟨v,rfl,ndRow_le h h1.size⟩,hb⟩
def TreesBut (lb:Option Nat) (w:World) (Vs:List Value) (Ts:List (List Nd)):Prop:=
 Vs.length = Ts.length ∧ ∀ (i:Nat) v T,Vs[i]? = some v → Ts[i]? = some T → T ≠ [] ∧ ∃ g c,v = .slice (some ⟨g,0,none⟩) T.length c ∧ g < w.heap.size ∧ (∀ b,lb = some b → g ≠ b) ∧ ∀ (j:Nat) u,(T.flatMap ndCells)[j]? = some u → w.cell? ⟨g,j,none⟩ = some u
theorem TreesBut.vals {lb:Option Nat} {w:World} {Vs:List Value} {Ts:List (List Nd)} (h:TreesBut lb w Vs Ts):TreeVals w.heap.size w Vs Ts:=by
 refine ⟨h.1,fun i v T hv hT=>?_⟩
 obtain ⟨hne,g,c,e,hl,_,hc⟩:=h.2 i v T hv hT
 refine ⟨hne,_,c,e,fun _=>⟨g,0,rfl,hl,fun q x hx j u hu=>?_⟩⟩
 rw [Nat.zero_add]
 exact hc _ u (flat_at nd_len hx hu)
theorem ndRow_cells {w:World} {base:Nat} {v:Value} {T:List Nd} (h:NdRow w base v T) (hne:T ≠ []):∃ g c,v = .slice (some ⟨g,0,none⟩) T.length c ∧ base ≤ g ∧ g < w.heap.size ∧ ∀ (j:Nat) u,(T.flatMap ndCells)[j]? = some u → w.cell? ⟨g,j,none⟩ = some u:=by
 have hl:=h.1
 rcases h.2 with ⟨_,h0⟩ | ⟨g,cap,cur,rfl,hb,hg,_⟩
 ·exact absurd (List.eq_nil_of_length_eq_zero h0) hne
 ·refine ⟨g,cap,rfl,hb,lt_of_heap hg,fun j u hu=>?_⟩
  have:=h.cells (g:=g) rfl j u hu
  rw [addN,Nat.zero_add] at this
  exact this
theorem TreesBut.push {lb lb':Option Nat} {w w1 w':World} {Vs:List Value} {Ts:List (List Nd)} {v:Value} {T:List Nd} (h:TreesBut lb w Vs Ts) (hb1:Below w.heap.size w w1) (hr:NdRow w1 w.heap.size v T) (hne:T ≠ [])
 (hk:∀ b,b < w1.heap.size → (∀ c,lb = some c → b ≠ c) → w'.heap[b]? = w1.heap[b]?) (hs:w1.heap.size ≤ w'.heap.size) (hlb:∀ c,lb = some c → c < w.heap.size) (hlb':∀ c,lb' = some c → lb = some c ∨ w1.heap.size ≤ c):TreesBut lb' w' (Vs ++ [v]) (Ts ++ [T]):=by
 have key:∀ (g:Nat),g < w1.heap.size → (∀ c,lb = some c → g ≠ c) → (∀ c,lb' = some c → g ≠ c):=fun g hg hc c hc'=>by
  rcases hlb' c hc' with h1 | h1
  ·exact hc c h1
  ·omega
 have hcell:∀ (g:Nat) (j:Nat) u,g < w1.heap.size → (∀ c,lb = some c → g ≠ c) → w1.cell? ⟨g,j,none⟩ = some u → w'.cell? ⟨g,j,none⟩ = some u:=fun g j u hg hc hu=>by
  rw [← hu];unfold World.cell?;rw [hk g hg hc]
 refine ⟨by simp [h.1],fun i v2 T2 hv hT=>?_⟩
 by_cases hi:i < Ts.length
 ·rw [List.getElem?_append_left (by rw [h.1];exact hi)] at hv
  rw [List.getElem?_append_left hi] at hT
  obtain ⟨hn2,g,c,e,hl,hlc,hc⟩:=h.2 i v2 T2 hv hT
  have hg1:g < w1.heap.size:=Nat.lt_of_lt_of_le hl hb1.size
  exact ⟨hn2,g,c,e,by omega,key g hg1 hlc,fun j u hu=>hcell g j u hg1 hlc (by rw [hb1.cell hl];exact hc j u hu)⟩
 ·have hi1:i < (Ts ++ [T]).length:=(List.getElem?_eq_some_iff.1 hT).1
  have hie:i = Ts.length:=by rw [List.length_append] at hi1;simp at hi1;omega
  subst hie
  rw [List.getElem?_append_right (by rw [h.1];exact Nat.le_refl _),h.1,Nat.sub_self] at hv
  rw [List.getElem?_append_right (Nat.le_refl _),Nat.sub_self] at hT
  obtain rfl:=Option.some.inj hv
  obtain rfl:=Option.some.inj hT
  obtain ⟨g,c,e,hbg,hl,hc⟩:=ndRow_cells hr hne
  have hlc:∀ c,lb = some c → g ≠ c:=fun c hc'=>by have:=hlb c hc';omega
  exact ⟨hne,g,c,e,by omega,key g hl hlc,fun j u hu=>hcell g j u hl hlc (hc j u hu)⟩
end Go.Proofs.YtlcfejgjeljjdaaGreatDoor
