/- A tree with its constants reckoned, as the package offers it · Structs of one's own: lent. · Structs of one's own: the law's helper. · The law's own example: the program. · Any tree is judged, and taken apart, as the document says: t -/
import Derived.Test.YtlcfejgjeljjdaaGreatDoorMg25
import Derived.Test.YtlcfejgjeljjdaaGreatDoorMg13
import Derived.Deep.AppendLies
import Derived.Deep.RegionHeld3
import Derived.Laws.AppendOwnNone
import Derived.Test.YtlcfejgjeljjdaaGreatDoorMg23
import Derived.Test.YtlcfejgjeljjdaaGreatDoorMg9
import Derived.Test.YtlcfejgjeljjdaaGreatDoorMg22
namespace Go.Proofs.YtlcfejgjeljjdaaGreatDoor
open Go.RowKit
section
variable (a:Option Addr) (cap:Nat) (t:List Nd) (l:Option Addr) (lc:Nat) (L:List Sr) (mv:List Value) (w:World) (hE:TE w) (hI:IsNds w.heap.size w a t) (hOk:∀ x ∈ t,NdOk x) (hz:t.length * 64 ≤ 140737488351232) (hS:IsSrs w.heap.size w l L mv)
include hE hI hOk hz hS
set_option maxHeartbeats 4000000 in
theorem foldC_0 (hcap:t.length ≤ cap) (hc:startN t L = 0):Calls Tryz.prog 19 #[.slice a t.length cap,.slice l L.length lc] w fun e w'=>(∃ v,e = .returned (.tuple #[v,.int .i64 0]) ∧ NdRow w' w.heap.size v (foldT L (trOf t)).flat) ∧ Below w.heap.size w w':=by
 have hmx:(t.length:Int) ≤ 2199023255488:=by omega
 have HSt:=Hd (start_0 a cap t l lc L mv w hE hI hOk hz hS hc)
 obtain ⟨h1,_,_⟩:=startN_0 hc
 obtain ⟨fr,hbe,hG⟩:=check_formed h1
 have hpos:=hG.formed.pos
 obtain ⟨k,hk⟩:∃ k,t.length = k + 1:=⟨t.length - 1,by omega⟩
 have hk1:(t.length:Int) - 1 = (k:Int):=by omega
 have hTr:trOf t = trAt t fr k:=by unfold trOf;rw [hbe,hk,Nat.add_sub_cancel];rfl
 rw [hTr]
 have HFd:=Hd (fun (w':World) (f:Nat) (b:Option Addr) (cb:Nat) (h:FoldAt w'.heap.size w' f a cap t l lc L mv b cb fr)=>fold_ok hG.le hcap hbe k (by omega) (by have:=startN_good hc hbe;rw [hk,Nat.add_sub_cancel] at this;exact this) w' h)
 have HBe:=Hd hbe
 clear hE hI hOk hS hc hbe hG h1 hk hTr
 generalize (foldT L (trAt t fr k)).flat = R at *
 go_enter Tryz.func19,Tryz.ntmps19
 go_upto_region 4 with (go_at_call 21;(with_reducible refine HSt.out.mono ?_);rintro e w1 ⟨⟨f,b,cb,fr',rfl,hfo,hbe'⟩,hb1⟩;have HFo:=Hd hfo;have HBe':=Hd hbe';have HB1:=Hd hb1;clear hfo hbe' hb1)
 obtain rfl:fr' = fr:=Option.some.inj (HBe'.out.symm.trans HBe.out)
 have HC1:=Hd (HFd.out w1 f b cb HFo.out)
 go_wp2_with (go_at_call 42;(with_reducible refine HC1.out.mono ?_);rintro e w4 ⟨⟨v4,rfl,hr4⟩,hb4⟩;have HR4:=Hd hr4;have HB4:=Ht HB1 hb4;clear hr4 hb4)
 go_ret2
 exact ⟨⟨_,rfl,ndRow_le HR4.out HB1.out.size⟩,HB4.out⟩
set_option maxHeartbeats 4000000 in
theorem foldC_n (hc:startN t L ≠ 0):Calls Tryz.prog 19 #[.slice a t.length cap,.slice l L.length lc] w fun e w'=>e = .returned (.tuple #[.slice none 0 0,.int .i64 (startN t L)]) ∧ Below w.heap.size w w':=by
 have HSt:=Hd (start_n a cap t l lc L mv w hE hI hOk hz hS hc)
 have t1:(startN t L != 0) = true:=by simpa using hc
 clear hE hI hOk hS hc
 generalize startN t L = c at *
 go_enter Tryz.func19,Tryz.ntmps19
 go_wp2_with (go_at_call 21;(with_reducible refine HSt.out.mono ?_);rintro e w1 ⟨rfl,hb1⟩;have HB1:=Hd hb1;clear hb1)
 go_ret2
 exact ⟨rfl,HB1.out⟩
end
theorem tr_of {W:Tr} (h:W.right):trOf W.flat = W:=by
 unfold trOf
 rw [begins_whole h]
 exact tr_back h
theorem folded_start {t:List Nd} {L:List Sr} (hc:startN t L = 0):startN (foldT L (trOf t)).flat L = 0 ∧ trOf (foldT L (trOf t)).flat = foldT L (trOf t) ∧ GoodT (trOf t) ∧ (foldT L (trOf t)).flat.length ≤ t.length ∧ checkN9 (foldT L (trOf t)).flat = 0:=by
 obtain ⟨h1,h2,h3⟩:=startN_0 hc
 obtain ⟨fr,hbe,hG⟩:=check_formed h1
 have hg:GoodT (trOf t):=by
  have:=startN_good hc hbe
  unfold trOf
  rw [hbe]
  exact this
 have hw:(trOf t).flat = t:=by
  unfold trOf
  rw [hbe]
  exact flat_whole hbe
 obtain ⟨m1,m2,m3,_,_,_⟩:=fold_main (sizes_ok L) (trOf t) hg
 have hle:(foldT L (trOf t)).flat.length ≤ t.length:=by rw [hw] at m3;exact m3
 have hd:deepR (trOf t) ≤ 48:=by
  have h4:=deepN_flat hg.1
  rw [hw] at h4
  rw [← h4]
  unfold checkN9 at h1
  split at h1
  ·cases h1
  split at h1
  ·cases h1
  rw [hbe] at h1
  simp only at h1
  split at h1
  ·cases h1
  split at h1
  ·cases h1
  ·omega
 have hck:=check_good m1 (by have:=hG.le;omega) (by omega)
 have htr:=tr_of m1.1
 refine ⟨?_,htr,hg,hle,hck⟩
 unfold startN
 rw [if_neg (by rw [hck];decide),if_neg,h3]
 have hp:=flat_pos (foldT L (trOf t))
 have hx:=List.getElem?_eq_getElem (show (foldT L (trOf t)).flat.length - 1 < (foldT L (trOf t)).flat.length by omega)
 rw [kindAt_is hx]
 have:=(m1.2 _ (List.getElem_mem (show (foldT L (trOf t)).flat.length - 1 < (foldT L (trOf t)).flat.length by omega))).2
 rw [this]
 simp
end Go.Proofs.YtlcfejgjeljjdaaGreatDoor
namespace Go
theorem step_append_none {P:Program} {w:World} {ops:Array Oper} {o:Oper} {a:Act} {K:Act → World → Prop} {Q:Exit → Act → World → Prop} {E:Prop} (hgd:o.guard = none) (s x:Operand) (t:TypeId)
 (ho:o.op = .call { callee:=.builtin .append,args:=#[s,x],argTypes:=#[t,t] })
 (base:Nat) (e:TypeId) (i:TypeInfo) (size:Nat) (ht:P.underlying t = some (.slice e)) (hi:P.info? e = some i)
 (v:Value) (n:Nat) (xs:List Value) (hs:a.eval s = v) (hown:w.ownsRow base e size v n xs) (hx:a.eval x = .slice none 0 0)
 (h:K (a.put o.dst v) w):if Region.wanted o (yielded ops a.tmps) = true then Oper.wp P o a w K Q else E:=by
 have hw:Region.wanted o (yielded ops a.tmps) = true:=by simp [Region.wanted,hgd]
 rw [if_pos hw]
 have hrun:=run_append_owned_none (P:=P) (w:=w) base t o.type e i size ht hi v n xs hown
 unfold Oper.wp
 simp [execOp,ho,resolve,invoke,builtin,hs,hx,hrun,Result.andThen]
 exact h
end Go
namespace Go.Proofs.YtlcfejgjeljjdaaGreatDoor
open Go.RowKit
theorem infoMe:(Tryz.prog.info? 142).map (fun i=>(i.zero,i.size,i.bytes)) = some (some (.agg #[.string ⟨#[]⟩,.string ⟨#[]⟩]),2,32):=by kernel_rfl
theorem pairM_inv {ms:List (ByteArray × ByteArray)} {i:Nat} {q:Value × Value} (h:(pairM ms)[i]? = some q):∃ m,ms[i]? = some m ∧ q = (.string m.1,.string m.2):=by
 rw [pairM,List.getElem?_map,Option.map_eq_some_iff] at h
 obtain ⟨m,hm,rfl⟩:=h
 exact ⟨m,hm,rfl⟩
theorem pairM_length (ms:List (ByteArray × ByteArray)):(pairM ms).length = ms.length:=by simp [pairM]
theorem mems_one (ms:List (ByteArray × ByteArray)):∀ u ∈ flat2 (pairM ms),u.oneCell' = true:=fun u hu=>by
 obtain ⟨j,hj,rfl⟩:=List.getElem_of_mem hu
 obtain ⟨i,q,hq,hj'⟩:=flat2_inv (List.getElem?_eq_getElem hj)
 obtain ⟨m,hm,rfl⟩:=pairM_inv hq
 rcases hj' with ⟨_,h⟩ | ⟨_,h⟩ <;> rw [h] <;> rfl
theorem mems_news {B:Nat} {w:World} {ad:Addr} {n c:Nat} {ms:List (ByteArray × ByteArray)} (h:IsMems B w (.slice (some ad) n c) ms):∀ (j:Nat) u,(flat2 (pairM ms))[j]? = some u → w.cell? (ad.add j) = some u:=fun j u hu=>by
 obtain ⟨i,q,hq,hj⟩:=flat2_inv hu
 obtain ⟨m,hm,rfl⟩:=pairM_inv hq
 obtain ⟨a,cap,e,hr⟩:=h
 obtain ⟨b,off,ha,_,hc⟩:=hr (fun e=>by rw [e] at hm;simp at hm)
 simp only [Value.slice.injEq] at e
 obtain ⟨e,_,_⟩:=e
 subst ha
 obtain rfl:=Option.some.inj e
 obtain ⟨h1,h2⟩:=hc i m hm
 rcases hj with ⟨rfl,rfl⟩ | ⟨rfl,rfl⟩
 ·rw [add2];exact h1
 ·rw [add2,← Nat.add_assoc];exact h2
theorem own_mems {w:World} {base:Nat} {v:Value} {ms:List (ByteArray × ByteArray)} (h:w.ownsRow base 142 2 v ms.length (flat2 (pairM ms))):IsMems w.heap.size w v ms:=by
 rcases h.2 with ⟨rfl,h0⟩ | ⟨g,cap,cur,rfl,_,hg,_⟩
 ·have:ms = []:=List.eq_nil_of_length_eq_zero h0
  subst this
  exact ⟨none,0,rfl,fun h=>absurd rfl h⟩
 ·refine ⟨_,cap,rfl,fun _=>⟨g,0,rfl,lt_of_heap hg,fun i m hm=>?_⟩⟩
  have hp:(pairM ms)[i]? = some (.string m.1,.string m.2):=by rw [pairM,List.getElem?_map,hm];rfl
  obtain ⟨h1,h2⟩:=flat2_at hp
  have c1:=h.cells (g:=g) rfl _ _ h1
  have c2:=h.cells (g:=g) rfl _ _ h2
  rw [add2,Nat.zero_add] at c1 c2
  exact ⟨by rw [Nat.zero_add];exact c1,by rw [Nat.zero_add];exact c2⟩
theorem IsMems.kept {B:Nat} {w w':World} {v:Value} {ms:List (ByteArray × ByteArray)} {row:Option Nat} (h:IsMems B w v ms) (hB:B ≤ w.heap.size) (hg:w.grownBy w' row) (hne:∀ k,v.ownBlock = some k → row ≠ some k):IsMems B w' v ms:=by
 obtain ⟨a,cap,rfl,hr⟩:=h
 refine ⟨a,cap,rfl,fun hn=>?_⟩
 obtain ⟨b,off,rfl,hlt,hc⟩:=hr hn
 refine ⟨b,off,rfl,hlt,fun i m hm=>?_⟩
 have hb:some b ≠ row:=fun e=>hne b rfl e.symm
 rw [hg.cell_far _ (show b < w.heap.size by omega) hb,hg.cell_far _ (show b < w.heap.size by omega) hb]
 exact hc i m hm
structure LentInv (w:World) (L:List Sr) (wy:World) (v:Value) (j:Nat) (mv:List Value):Prop where
 own:wy.ownsRow w.heap.size 45 2 v j (flat2 (pairS (L.take j) mv))
 len:mv.length = j
 mems:∀ (i:Nat) x u,(L.take j)[i]? = some x → mv[i]? = some u → IsMems wy.heap.size wy u x.mems ∧ ∀ k,u.ownBlock = some k → k < wy.heap.size ∧ v.ownBlock ≠ some k
 below:Below w.heap.size w wy
theorem lentInv_start (w:World) (L:List Sr):LentInv w L (w.alloc (.cells #[] 45)) (.slice (some ⟨w.heap.size,0,none⟩) 0 0) 0 []:=
 ⟨World.ownsRow_made _ #[] 0 (Nat.le_refl _) (by decide) (by simp),rfl,fun i x u hx=>by simp at hx,(Below.refl _ _).alloc (Nat.le_refl _) _⟩
theorem LentInv.next {w wr w3 w4 w5:World} {L:List Sr} {v v1 v':Value} {j:Nat} {mv:List Value} {x:Sr} (h:LentInv w L wr v j mv) (hx:L[j]? = some x)
 (hown1:w3.ownsRow wr.heap.size 142 2 v1 x.mems.length (flat2 (pairM x.mems))) (h3:Below wr.heap.size wr w3) (h4:Below w3.heap.size w3 w4)
 (hown5:w5.ownsRow w.heap.size 45 2 v' (j + 1) (flat2 (pairS (L.take j) mv) ++ [.string x.name,v1])) (hg:w4.grownBy w5 v.ownBlock) (hl:v'.ownBlock = v.ownBlock ∨ v'.ownBlock = some w4.heap.size) :
 LentInv w L w5 v' (j + 1) (mv ++ [v1]):=by
 have hjl:j < L.length:=by obtain ⟨h1,_⟩:=List.getElem?_eq_some_iff.1 hx;exact h1
 have htk:L.take (j + 1) = L.take j ++ [x]:=by
  obtain ⟨h1,rfl⟩:=List.getElem?_eq_some_iff.1 hx
  exact take_at L j h1
 have htl:(L.take j).length = j:=by rw [List.length_take];omega
 have h34:Below wr.heap.size wr w4:=h3.trans (h4.mono h3.size)
 have hs4:=h34.size
 have hs3:=h3.size
 have hs43:=h4.size
 refine ⟨?_,by simp [h.len],fun i y u hy hu=>?_,?_⟩
 ·rw [htk,pairS_snoc (by rw [h.len,htl]),flat2_append]
  exact hown5
 ·rw [htk] at hy
  have key:∃ B,B ≤ w4.heap.size ∧ IsMems B w4 u y.mems ∧ ∀ k,u.ownBlock = some k → k < w4.heap.size ∧ v.ownBlock ≠ some k:=by
   rcases Nat.lt_or_ge i j with hlt | hge
   ·rw [List.getElem?_append_left (by omega)] at hy
    rw [List.getElem?_append_left (by rw [h.len];exact hlt)] at hu
    obtain ⟨h1,h2⟩:=h.mems i y u hy hu
    exact ⟨wr.heap.size,hs4,h1.below h34 (Nat.le_refl _),fun k hk=>⟨Nat.lt_of_lt_of_le (h2 k hk).1 hs4,(h2 k hk).2⟩⟩
   ·obtain rfl:i = j:=by
     have:=(List.getElem?_eq_some_iff.1 hu).1
     simp [h.len] at this;omega
    rw [List.getElem?_append_right (by omega),htl,Nat.sub_self] at hy
    rw [List.getElem?_append_right (by rw [h.len];exact Nat.le_refl _),h.len,Nat.sub_self] at hu
    obtain rfl:=Option.some.inj hy
    obtain rfl:=Option.some.inj hu
    refine ⟨w3.heap.size,hs43,(own_mems hown1).below h4 (Nat.le_refl _),fun k hk=>?_⟩
    obtain ⟨h1,h2⟩:=hown1.lt k hk
    refine ⟨by omega,fun e=>?_⟩
    have:=(h.own.lt k e).2
    omega
  obtain ⟨B,hB,h1,h2⟩:=key
  refine ⟨(h1.kept hB hg (fun k hk=>(h2 k hk).2)).mono (Nat.le_trans hB hg.size),fun k hk=>?_⟩
  obtain ⟨h3,h4⟩:=h2 k hk
  refine ⟨Nat.lt_of_lt_of_le h3 hg.size,fun e=>?_⟩
  rcases hl with hl | hl
  ·exact h4 (hl ▸ e)
  ·rw [hl] at e
   have:=Option.some.inj e
   omega
 ·exact (h.below.trans (h34.mono h.below.size)).grown hg (Nat.le_trans h.below.size hs4) (fun k hk=>(h.own.lt k hk).1)
theorem LentInv.done {w wr:World} {L:List Sr} {v:Value} {mv:List Value} (h:LentInv w L wr v L.length mv) (hN:∀ x ∈ L,x.name.size ≤ maxLen):∃ a cap,v = .slice a L.length cap ∧ IsSrs wr.heap.size wr a L mv:=by
 have ht:L.take L.length = L:=List.take_length
 have h1:=h.own
 rw [ht] at h1
 refine own_srs h1 rfl h.len (fun i x u hx hu=>(h.mems i x u (by rw [ht];exact hx) hu).1) hN
def LentEnd (L:List Sr) (w:World) (e:Ending) (w':World):Prop:=(∃ a cap mv,e = .returned (.slice a L.length cap) ∧ IsSrs w'.heap.size w' a L mv) ∧ Below w.heap.size w w'
theorem lentEnd {L:List Sr} {w w':World} {v:Value} {mv:List Value} (h:LentInv w L w' v L.length mv) (hN:∀ x ∈ L,x.name.size ≤ maxLen):LentEnd L w (.returned v) w':=by
 obtain ⟨a,cap,rfl,hs⟩:=h.done hN
 exact ⟨⟨a,cap,mv,rfl,hs⟩,h.below⟩
end Go.Proofs.YtlcfejgjeljjdaaGreatDoor
namespace Go.Proofs.YtlcfejgjeljjdaaGreatDoor
open Go.RowKit
set_option maxRecDepth 100000 in
set_option maxHeartbeats 4000000 in
theorem lent12_ok (a:Option Addr) (cap:Nat) (L:List Sr) (mv:List Value) (w:World) (hS:IsSrs w.heap.size w a L mv) (hz:L.length * 40 ≤ 140737488351232) (hm:∀ x ∈ L,x.mems.length * 32 ≤ 140737488351232) (hnil:∀ v ∈ mv,∀ n c,v = .slice none n c → n = 0 ∧ c = 0) :
 Calls Tryz.prog 7 #[.slice a L.length cap] w (LentEnd L w):=by
 have HS:=Hd hS
 have HM:=Hd hm
 have HNil:=Hd hnil
 have hLl:(L.length:Int) ≤ 140737488351232:=by omega
 obtain ⟨i0,hi,hz0,hz1,hz2⟩:=info_parts infoSt
 have HI0:=Hd (And.intro hi (And.intro hz0 (And.intro hz1 hz2)))
 clear hi hz0 hz1 hz2
 obtain ⟨i1,hi,hz0,hz1,hz2⟩:=info_parts infoMe
 have HI1:=Hd (And.intro hi (And.intro hz0 (And.intro hz1 hz2)))
 clear hi hz0 hz1 hz2 hS hm hnil
 go_enter Tryz.func7,Tryz.ntmps7
 go_wp2_with fail
 go_loopg [3,9] L.length (fun g v3 v9 wy=>∃ (j:Nat) (mv':List Value),j ≤ L.length ∧ j + g = L.length ∧ v9 = .int .i64 (j:Int) ∧ Hid (LentInv w L wy v3 j mv'))
 case atStart=>exact ⟨0,[],by omega,by omega,rfl,lentInv_start w L⟩
 case round=>
  obtain ⟨j,mv',hj,hjg,rfl,HI⟩:=hrel
  by_cases hlt:j < L.length
  ·obtain ⟨bb,off,ha,hbl,hrow⟩:=HS.out.at_ (fun e=>by rw [e] at hlt;simp at hlt)
   subst ha
   have hlm:j < mv.length:=by rw [HS.out.len];exact hlt
   obtain ⟨c1,c2,hms⟩:=hrow j _ _ (List.getElem?_eq_getElem hlt) (List.getElem?_eq_getElem hlm)
   rw [← HI.out.below.cell hbl] at c1 c2
   have HX:=Hd (List.getElem?_eq_getElem hlt)
   have hm32:=HM.out _ (List.getElem_mem hlt)
   have hnl:=HNil.out _ (List.getElem_mem hlm)
   generalize L[j]'hlt = x at *
   generalize mv[j]'hlm = u at *
   have HMs:=Hd hms
   obtain ⟨am,cm,rfl,_⟩:=hms
   have HNl:=Hd (hnl x.mems.length cm)
   clear hrow hnl hlm
   go_upto_region 5 with fail
   have hm2:(wr.alloc (.cells #[.string x.name,.slice am x.mems.length cm] 45)).heap[wr.heap.size]? = some (.cells #[.string x.name,.slice am x.mems.length cm] 45 (0,0)):=heap_alloc_new _ _
   have hb2:Below wr.heap.size wr (wr.alloc (.cells #[.string x.name,.slice am x.mems.length cm] 45)):=(Below.refl _ _).alloc (Nat.le_refl _) _
   generalize wr.alloc (.cells #[.string x.name,.slice am x.mems.length cm] 45) = w2 at *
   have hz2:=lt_of_heap hm2
   obtain ⟨⟨m0,m1⟩,_⟩:=two_block hm2
   have HB2:=Hd hb2
   have HM2:=Hd hm2
   clear hb2 hm2 c1 c2
   have HO:=Hd HI.out.own
   have HCl:=Hd (show ∀ w',Below w2.heap.size w2 w' → w'.cell? ⟨wr.heap.size,0,none⟩ = some (.string x.name) ∧ w'.cell? ⟨wr.heap.size,1,none⟩ = some (.slice am x.mems.length cm) from fun w' hb=>⟨by rw [hb.cell hz2];exact m0,by rw [hb.cell hz2];exact m1⟩)
   have HMw:=Hd (show ∀ w',Below w2.heap.size w2 w' → IsMems w.heap.size w' (.slice am x.mems.length cm) x.mems from fun w' hb=>HMs.out.below (HI.out.below.trans ((HB2.out.trans (hb.mono HB2.out.size)).mono HI.out.below.size)) (Nat.le_refl _))
   have HNums:=Hd (show 0 + x.mems.length ≤ maxLen ∧ (0 + x.mems.length) * 32 ≤ 140737488355328 ∧ j + 1 ≤ maxLen ∧ (j + 1) * 40 ≤ 140737488355328 from ⟨by unfold maxLen;omega,by omega,by unfold maxLen;omega,by omega⟩)
   have HMl:=Hd (show (flat2 (pairM x.mems)).length = x.mems.length * 2 by rw [flat2_length,pairM_length])
   cases am with
   | none=>
     obtain ⟨h0,h00⟩:=HNl.out rfl
     have hms0:x.mems = []:=List.eq_nil_of_length_eq_zero h0
     have HO1:=Hd (show (w2.alloc (.cells #[] 142)).drew.ownsRow wr.heap.size 142 2 (.slice (some ⟨w2.heap.size,0,none⟩) 0 0) x.mems.length (flat2 (pairM x.mems)) by rw [hms0];exact own_nil (heap_alloc_new _ _) HB2.out.size)
     rw [h0,h00] at m1 HCl
     clear hms0
     go_region_held3 (fun w'=>w'.cell? ⟨wr.heap.size,0,none⟩ = some (.string x.name) ∧ w'.cell? ⟨wr.heap.size,1,none⟩ = some (.slice none 0 0)) (first | (constructor <;> assumption) | exact HCl.out _ ((Below.refl _ _).drew) | exact HCl.out _ (blw1 _ _) | exact HCl.out _ (blw2 _ _ _))
      (first
        | (refine step_append_none (by rfl) _ _ _ (by rfl) wr.heap.size 142 i1 2 Tryz.underlying43 HI1.out.1 _ 0 [] (by rfl) (own_nil ?_ ?_) (by rfl) ?_;(next=>exact heap_alloc_new _ _);(next=>exact HB2.out.size))
        | (refine step_append_lies _ (by rfl) _ _ _ (by rfl) w.heap.size 45 i0 (.agg #[.string ⟨#[]⟩,.slice none 0 0]) 2 40 Tryz.underlying24 HI0.out.1 HI0.out.2.1 HI0.out.2.2.1 HI0.out.2.2.2 (by rfl) (by decide) _ j (flat2 (pairS (L.take j) mv')) (by rfl) ?_ ⟨w2.heap.size + 1,0,none⟩ 1 1 [.string x.name,.slice (some ⟨w2.heap.size,0,none⟩) 0 0] (by rfl) (by rfl) (news2 (T:=45) ?_) ?_ (by decide) HNums.out.2.2.1 HNums.out.2.2.2 ?_ (w2.heap.size + 1 + 1) ?_ ?_;(next=>exact HO.out.belowed (HB2.out.trans ((blw2 _ _ _).mono HB2.out.size)));(next=>exact heap_new2 _ _ _);(next=>simp [Value.oneCell']);(next=>simp;have:=HI.out.below.size;have:=HB2.out.size;omega);(next=>simp);intro g cp w5 hown5 hgrow5 hat5 hlt5;have HN5:=Hd (HI.out.next HX.out HO1.out (HB2.out.trans ((blw1 _ _).mono HB2.out.size)) ((Below.refl (w2.alloc (.cells #[] 142)).drew.heap.size (w2.alloc (.cells #[] 142)).drew).alloc (Nat.le_refl _) _) hown5 hgrow5 (by rcases hat5 with h | h;exact .inl h.symm;exact .inr (by rw [h];simp [Value.ownBlock])));have hcl3:=HCl.out _ (blw2 w2 (.cells #[] 142) (.cells #[.string x.name,.slice (some ⟨w2.heap.size,0,none⟩) 0 0] 45));have k2:=(hgrow5.cell_far ⟨wr.heap.size,0,none⟩ (by simp;omega) (fun e=>absurd (HO.out.lt _ e.symm).2 (Nat.lt_irrefl _))).trans hcl3.1;have k3:=(hgrow5.cell_far ⟨wr.heap.size,1,none⟩ (by simp;omega) (fun e=>absurd (HO.out.lt _ e.symm).2 (Nat.lt_irrefl _))).trans hcl3.2;clear hown5 hgrow5 hat5 hlt5 hcl3))
     go_wp2_with fail
     go_roundg (L.length - (j + 1))
     case measure=>omega
     case rel=>exact ⟨j + 1,mv' ++ [.slice (some ⟨w2.heap.size,0,none⟩) 0 0],by omega,by omega,by rw [Int.natCast_add];rfl,HN5⟩
   | some ad=>
     go_region_held3 (fun w'=>w'.cell? ⟨wr.heap.size,0,none⟩ = some (.string x.name) ∧ w'.cell? ⟨wr.heap.size,1,none⟩ = some (.slice (some ad) x.mems.length cm)) (first | (constructor <;> assumption) | exact HCl.out _ ((Below.refl _ _).drew) | exact HCl.out _ (blw1 _ _) | exact HCl.out _ (HB3.out.alloc HB3.out.size _))
      (first
        | (refine step_append_own (by rfl) _ _ _ (by rfl) wr.heap.size 142 i1 (.agg #[.string ⟨#[]⟩,.string ⟨#[]⟩]) 2 32 Tryz.underlying43 HI1.out.1 HI1.out.2.1 HI1.out.2.2.1 HI1.out.2.2.2 (by rfl) (by decide) _ 0 [] (by rfl) (own_nil ?_ ?_) ad x.mems.length cm (flat2 (pairM x.mems)) (by rfl) HMl.out (mems_news (HMw.out _ ?_)) (mems_one _) HNums.out.1 HNums.out.2.1 ?_ ?_;(next=>exact heap_alloc_new _ _);(next=>exact HB2.out.size);(next=>exact blw1 _ _);(next=>exact Nat.le_trans HB2.out.size (blw1 _ _).size);intro v1 w3 hown1 hgrow1 _;have HO1:=Hd (show w3.ownsRow wr.heap.size 142 2 v1 x.mems.length (flat2 (pairM x.mems)) by simpa using hown1);have HB3:=Hd (show Below w2.heap.size w2 w3 by (refine Below.grown ?_ hgrow1 ?_ ?_;(next=>exact blw1 _ _);(next=>exact (blw1 _ _).size);(next=>intro q hq;simp [Value.ownBlock] at hq;omega)));clear hown1 hgrow1;obtain ⟨a1,c1,rfl,_⟩:=own_mems HO1.out;obtain ⟨k0,k1⟩:=HCl.out _ HB3.out)
        | (refine step_append_lies _ (by rfl) _ _ _ (by rfl) w.heap.size 45 i0 (.agg #[.string ⟨#[]⟩,.slice none 0 0]) 2 40 Tryz.underlying24 HI0.out.1 HI0.out.2.1 HI0.out.2.2.1 HI0.out.2.2.2 (by rfl) (by decide) _ j (flat2 (pairS (L.take j) mv')) (by rfl) ?_ ⟨w3.heap.size,0,none⟩ 1 1 [.string x.name,.slice a1 x.mems.length c1] (by rfl) (by rfl) (news2 (T:=45) ?_) ?_ (by decide) HNums.out.2.2.1 HNums.out.2.2.2 ?_ (w3.heap.size + 1) ?_ ?_;(next=>exact (HO.out.belowed (HB2.out.trans (HB3.out.mono HB2.out.size))).alloc _);(next=>exact heap_alloc_new _ _);(next=>simp [Value.oneCell']);(next=>simp;have:=HO.out.lt;have:=(HI.out.below.trans ((HB2.out.trans (HB3.out.mono HB2.out.size)).mono HI.out.below.size)).size;omega);(next=>simp);intro g cp w5 hown5 hgrow5 hat5 hlt5;have HN5:=Hd (HI.out.next HX.out HO1.out (HB2.out.trans (HB3.out.mono HB2.out.size)) ((Below.refl w3.heap.size w3).alloc (Nat.le_refl _) _) hown5 hgrow5 (by rcases hat5 with h | h;exact .inl h.symm;exact .inr (by rw [h];simp [Value.ownBlock])));have hcl3:=HCl.out _ (HB3.out.alloc HB3.out.size (.cells #[.string x.name,.slice a1 x.mems.length c1] 45));have k2:=(hgrow5.cell_far ⟨wr.heap.size,0,none⟩ (by simp;have:=HB3.out.size;omega) (fun e=>absurd (HO.out.lt _ e.symm).2 (Nat.lt_irrefl _))).trans hcl3.1;have k3:=(hgrow5.cell_far ⟨wr.heap.size,1,none⟩ (by simp;have:=HB3.out.size;omega) (fun e=>absurd (HO.out.lt _ e.symm).2 (Nat.lt_irrefl _))).trans hcl3.2;clear hown5 hgrow5 hat5 hlt5 hcl3))
     go_wp2_with fail
     go_roundg (L.length - (j + 1))
     case measure=>omega
     case rel=>exact ⟨j + 1,mv' ++ [.slice a1 x.mems.length c1],by omega,by omega,by rw [Int.natCast_add];rfl,HN5⟩
  ·obtain rfl:j = L.length:=by omega
   have t3:(L.length:Int) ≤ (L.length:Int):=Int.le_refl _
   go_wp2_with fail
   go_ret
   exact lentEnd HI.out HS.out.names
end Go.Proofs.YtlcfejgjeljjdaaGreatDoor
namespace Go.Proofs.YtlcfejgjeljjdaaGreatDoor
open Go.RowKit
theorem nds_lit {w:World} {b:Nat} {T:TypeId} {cs:Array Value} {t:List Nd} (h:w.heap[b]? = some (.cells cs T (0,0))) (hc:cs.toList = t.flatMap ndCells):IsNds w.heap.size w (some ⟨b,0,none⟩) t:=fun _=>
 ⟨b,0,rfl,lt_of_heap h,fun i x hx j u hu=>by
   have:=flat_at (k:=6) (cells:=ndCells) (fun _=>rfl) hx hu
   rw [← hc] at this
   simp [World.cell?,h]
   simpa using this⟩
def num12 (n:Int):Nd:=⟨1,0,0,n,⟨#[]⟩,iText12⟩
def exT:List Nd:=[num12 1,num12 2,num12 3,num12 0,⟨7,2,0,0,mDiv,⟨#[]⟩⟩,⟨9,3,0,0,⟨#[]⟩,⟨#[]⟩⟩]
theorem ex_start:startN exT [] = 0:=by decide +kernel
theorem ex_begins:beginsN exT = some [0,1,2,3,2,0]:=by decide +kernel
theorem ex_eval:evalX exT [] = (2,iText12,0):=by
 unfold evalX
 rw [if_neg (show ¬ startN exT [] ≠ 0 by simp [ex_start])]
 have:constT [] (trOf exT) = some (iText12,2):=by
  unfold trOf
  rw [ex_begins]
  decide +kernel
 rw [this]
theorem ex_conv:convE 200 cText12 = (-56,0):=by decide +kernel
theorem num_ok (n:Int) (w:World):Calls Tryz.prog 26 #[.int .i64 n] w fun e w'=>e = .returned (.agg #[.int .i64 1,.int .i64 0,.int .i64 0,.int .i64 n,.string ⟨#[]⟩,.string ⟨#[105]⟩]) ∧ Below w.heap.size w w':=by
 have hq:=nodeAt_new w ⟨0,0,0,0,⟨#[]⟩,⟨#[]⟩⟩
 have hb:=ba1 w (ndObj ⟨0,0,0,0,⟨#[]⟩,⟨#[]⟩⟩)
 simp only [ndObj] at hq hb
 go_enter Tryz.func26,Tryz.ntmps26
 go_upto_region 1 with fail
 generalize w.alloc (.cells #[.int .i64 0,.int .i64 0,.int .i64 0,.int .i64 0,.string ⟨#[]⟩,.string ⟨#[]⟩] 42) = w1 at *
 obtain ⟨⟨x0,x1,x2,x3,x4,x5⟩,xf⟩:=six_block hq
 have f0:=xf 0
 have f1:=xf 1
 have f2:=xf 2
 have f3:=xf 3
 have f4:=xf 4
 have f5:=xf 5
 have HB:=Hd hb
 clear xf hq hb
 go_wp2_with fail
 exact bodyPost_ret (v:=.agg #[.int .i64 1,.int .i64 0,.int .i64 0,.int .i64 n,.string ⟨#[]⟩,.string ⟨#[105]⟩]) (by simp [results,Tryz.results26,go_sem,x0,x1,x2,x3,x4,x5]) rfl ⟨rfl,below_set6 HB.out (Nat.le_refl w.heap.size) ⟨1,0,0,n,⟨#[]⟩,⟨#[105]⟩⟩⟩
set_option maxRecDepth 100000 in
set_option maxHeartbeats 4000000 in
theorem works12_ok (w:World) (hE:TE w):Calls Tryz.prog 12 #[] w fun e w'=>e = .returned (.bool true) ∧ Below w.heap.size w w':=by
 have HE:=Hd hE
 have HNum:=Hd (fun n w=>num_ok n w)
 have HCv:=Hd (fun w=>convert_ok 200 ⟨#[99]⟩ w)
 have e1:convE 200 ⟨#[99]⟩ = (-56,0):=ex_conv
 rw [e1] at HCv
 have HEv:=Hd (fun (w:World) (a:Option Addr) (hE:TE w) (hI:IsNds w.heap.size w a exT)=>show Calls Tryz.prog 8 #[.slice a 6 6,.slice none 0 0] w (fun e w'=>e = .returned (.tuple #[.int .i64 2,.string ⟨#[105]⟩,.int .i64 0]) ∧ Below w.heap.size w w') from by
  have:=evalC_ok a 6 exT none 0 [] [] w hE hI (by intro x hx;simp [exT,num12] at hx;rcases hx with rfl | rfl | rfl | rfl | rfl | rfl <;> (refine ⟨?_,?_,?_,?_⟩ <;> (unfold i64In;decide))) (by decide) ⟨rfl,fun h=>absurd rfl h,fun x hx=>by cases hx⟩
  rw [ex_eval] at this
  exact this)
 clear hE e1
 go_enter Tryz.func12,Tryz.ntmps12
 go_upto_region 2 with (first
  | (go_at_call_of 26 (1:Int);(with_reducible refine (HNum.out _ _).mono ?_);rintro e w1 ⟨rfl,hb1⟩;have HB1:=Hd hb1;clear hb1)
  | (go_at_call_of 26 (2:Int);(with_reducible refine (HNum.out _ _).mono ?_);rintro e w2 ⟨rfl,hb2⟩;have HB2:=Ht HB1 hb2;clear hb2)
  | (go_at_call_of 26 (3:Int);(with_reducible refine (HNum.out _ _).mono ?_);rintro e w3 ⟨rfl,hb3⟩;have HB3:=Ht HB2 hb3;clear hb3)
  | (go_at_call_of 26 (0:Int);(with_reducible refine (HNum.out _ _).mono ?_);rintro e w4 ⟨rfl,hb4⟩;have HB4:=Ht HB3 hb4;clear hb4))
 have hI:=nds_lit (w:=w4.alloc (.cells #[.int .i64 1,.int .i64 0,.int .i64 0,.int .i64 1,.string ⟨#[]⟩,.string ⟨#[105]⟩,.int .i64 1,.int .i64 0,.int .i64 0,.int .i64 2,.string ⟨#[]⟩,.string ⟨#[105]⟩,.int .i64 1,.int .i64 0,.int .i64 0,.int .i64 3,.string ⟨#[]⟩,.string ⟨#[105]⟩,.int .i64 1,.int .i64 0,.int .i64 0,.int .i64 0,.string ⟨#[]⟩,.string ⟨#[105]⟩,.int .i64 7,.int .i64 2,.int .i64 0,.int .i64 0,.string ⟨#[47]⟩,.string ⟨#[]⟩,.int .i64 9,.int .i64 3,.int .i64 0,.int .i64 0,.string ⟨#[]⟩,.string ⟨#[]⟩] 42)) (t:=exT) (heap_alloc_new _ _) rfl
 have HB5:=Hd (HB4.out.alloc HB4.out.size (.cells #[.int .i64 1,.int .i64 0,.int .i64 0,.int .i64 1,.string ⟨#[]⟩,.string ⟨#[105]⟩,.int .i64 1,.int .i64 0,.int .i64 0,.int .i64 2,.string ⟨#[]⟩,.string ⟨#[105]⟩,.int .i64 1,.int .i64 0,.int .i64 0,.int .i64 3,.string ⟨#[]⟩,.string ⟨#[105]⟩,.int .i64 1,.int .i64 0,.int .i64 0,.int .i64 0,.string ⟨#[]⟩,.string ⟨#[105]⟩,.int .i64 7,.int .i64 2,.int .i64 0,.int .i64 0,.string ⟨#[47]⟩,.string ⟨#[]⟩,.int .i64 9,.int .i64 3,.int .i64 0,.int .i64 0,.string ⟨#[]⟩,.string ⟨#[]⟩] 42))
 have HI:=Hd hI
 clear hI
 generalize w4.alloc (.cells #[.int .i64 1,.int .i64 0,.int .i64 0,.int .i64 1,.string ⟨#[]⟩,.string ⟨#[105]⟩,.int .i64 1,.int .i64 0,.int .i64 0,.int .i64 2,.string ⟨#[]⟩,.string ⟨#[105]⟩,.int .i64 1,.int .i64 0,.int .i64 0,.int .i64 3,.string ⟨#[]⟩,.string ⟨#[105]⟩,.int .i64 1,.int .i64 0,.int .i64 0,.int .i64 0,.string ⟨#[]⟩,.string ⟨#[105]⟩,.int .i64 7,.int .i64 2,.int .i64 0,.int .i64 0,.string ⟨#[47]⟩,.string ⟨#[]⟩,.int .i64 9,.int .i64 3,.int .i64 0,.int .i64 0,.string ⟨#[]⟩,.string ⟨#[]⟩] 42) = w5 at *
 have HV:=Hd (HEv.out w5 _ (HE.out.below HB5.out) HI.out)
 go_wp2_with (first
  | (go_at_call 8;(with_reducible refine HV.out.mono ?_);rintro e w6 ⟨rfl,hb6⟩;have HB6:=Ht HB5 hb6;clear hb6)
  | (go_at_call 17;(with_reducible refine (HCv.out _).mono ?_);rintro e w7 ⟨rfl,hw7⟩;subst w7))
 go_ret
 exact ⟨rfl,HB6.out⟩
end Go.Proofs.YtlcfejgjeljjdaaGreatDoor
namespace Go.Proofs.YtlcfejgjeljjdaaGreatDoor
open Go.RowKit
theorem NdRow.opened {w:World} {base:Nat} {v:Value} {L:List Nd} (h:NdRow w base v L):∃ a cap,v = .slice a L.length cap ∧ L.length ≤ cap ∧ cap ≤ maxLen ∧ IsNds w.heap.size w a L ∧ (a = none → L = [] ∧ cap = 0):=by
 obtain ⟨a,cap,hv,hN,hn⟩:=own_sl nd_len h rfl
 refine ⟨a,cap,hv,?_,?_,hN,hn⟩
 ·rcases h.2 with ⟨e,h0⟩ | ⟨g,c,cur,e,_,_,h1,_⟩
  ·omega
  ·rw [hv] at e;simp only [Value.slice.injEq] at e;omega
 ·rcases h.2 with ⟨e,h0⟩ | ⟨g,c,cur,e,_,_,_,h1,_⟩
  ·rw [hv] at e;simp only [Value.slice.injEq] at e;rw [e.2.2];exact Nat.zero_le _
  ·rw [hv] at e;simp only [Value.slice.injEq] at e;rw [e.2.2];exact h1
def SomeRow (w:World) (base:Nat) (v:Value) (n:Nat):Prop:=∃ ys,w.ownsRow base 42 6 v n ys
theorem SomeRow.at_ {w:World} {base n cap:Nat} {a:Option Addr} (h:SomeRow w base (.slice a n cap) n) {i:Nat} (hi:i < n):∃ g,a = some ⟨g,0,none⟩ ∧ base ≤ g ∧ (∀ j,j < 6 → ∃ u,w.cell? ⟨g,i * 6 + j,none⟩ = some u) ∧ ∀ j,w.frozen? ⟨g,j,none⟩ = false:=by
 obtain ⟨ys,ho⟩:=h
 have hl:=ho.1
 rcases ho.2 with ⟨e,h0⟩ | ⟨g,c,cur,e,hb,_⟩
 ·omega
 ·simp only [Value.slice.injEq] at e
  obtain ⟨rfl,_,_⟩:=e
  refine ⟨g,rfl,hb,fun j hj=>?_,fun j=>ho.frozenAt j⟩
  rw [ho.cellAt _ (by omega)]
  exact ⟨_,List.getElem?_eq_getElem (by omega)⟩
theorem SomeRow.set {w:World} {base n cap g o:Nat} {u:Value} (h:SomeRow w base (.slice (some ⟨g,0,none⟩) n cap) n):SomeRow (w.setCell ⟨g,o,none⟩ u) base (.slice (some ⟨g,0,none⟩) n cap) n:=by
 obtain ⟨ys,ho⟩:=h
 exact ⟨_,(ho.stored o u).1⟩
theorem ba_set {B g:Nat} {w w':World} (h:Below B w w') (hg:B ≤ g) (o:Nat) (u:Value):Below B w (w'.setCell ⟨g,o,none⟩ u):=h.setCell hg _
end Go.Proofs.YtlcfejgjeljjdaaGreatDoor
