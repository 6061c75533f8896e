/- Constant expressions: the program. · Where a part begins, the parts of a node: the reference of f · The reference: Size, Member. -/
import Derived.Test.YtlcfejgjeljjdaaGreatDoorMg22
import Derived.Test.YtlcfejgjeljjdaaGreatDoorMg15
import Derived.Test.YtlcfejgjeljjdaaGreatDoorFoldRC
import Derived.Test.YtlcfejgjeljjdaaGreatDoorMg16
import Derived.Test.YtlcfejgjeljjdaaGreatDoorMg9
import Derived.Test.YtlcfejgjeljjdaaGreatDoorMg8
import Derived.Test.YtlcfejgjeljjdaaGreatDoorMg20
namespace Go.Proofs.YtlcfejgjeljjdaaGreatDoor
open Go.RowKit
def startN (t:List Nd) (L:List Sr):Int:=if checkN9 t ≠ 0 then checkN9 t else if exprK (kindAt t (t.length - 1)) = false then 5 else (faultN L).2
def trOf (t:List Nd):Tr:=trAt t ((beginsN t).getD []) (t.length - 1)
def evalX (t:List Nd) (L:List Sr):Int × ByteArray × Int:=if startN t L ≠ 0 then (0,⟨#[]⟩,startN t L) else match constT L (trOf t) with
 | none=>(0,⟨#[]⟩,120)
 | some v=>(v.2,v.1,0)
theorem startN_0 {t:List Nd} {L:List Sr} (h:startN t L = 0):checkN9 t = 0 ∧ exprK (kindAt t (t.length - 1)) = true ∧ (faultN L).2 = 0:=by
 unfold startN at h
 split at h
 ·rename_i h1;exact absurd h h1
 rename_i h1
 split at h
 ·cases h
 rename_i h2
 exact ⟨by simpa using h1,by simpa using h2,h⟩
theorem startN_good {t:List Nd} {L:List Sr} {fr:List Nat} (h:startN t L = 0) (hb:beginsN t = some fr):GoodT (trAt t fr (t.length - 1)):=by
 obtain ⟨h1,h2,_⟩:=startN_0 h
 have:=(formed_of hb).pos
 exact good_of h1 hb (by omega) h2
section
variable (a:Option Addr) (cap:Nat) (t:List Nd) (l:Option Addr) (lc:Nat) (L:List Sr) (mv:List Value) (w:World) (hE:TE w) (hI:IsNds w.heap.size w a t) (hOk:∀ x ∈ t,NdOk x) (hz:t.length * 64 ≤ 140737488351232) (hS:IsSrs w.heap.size w l L mv)
def StartEnd (e:Ending) (w':World):Prop:=
 (if startN t L ≠ 0 then e = .returned (.tuple #[.pointer none,.int .i64 (startN t L)])
  else ∃ (f:Nat) (b:Option Addr) (cb:Nat) (fr:List Nat),e = .returned (.tuple #[.pointer (some ⟨f,0,none⟩),.int .i64 0]) ∧ FoldAt w'.heap.size w' f a cap t l lc L mv b cb fr ∧ beginsN t = some fr) ∧ Below w.heap.size w w'
theorem startEnd_no {w':World} {c:Int} (h:startN t L = c) (hc:c ≠ 0) (hb:Below w.heap.size w w'):StartEnd a cap t l lc L mv w (.returned (.tuple #[.pointer none,.int .i64 c])) w':=by
 unfold StartEnd
 rw [if_pos (by rw [h];exact hc),h]
 exact ⟨rfl,hb⟩
include hE hI hOk hz hS
set_option maxHeartbeats 4000000 in
theorem start_ok:Calls Tryz.prog 21 #[.slice a t.length cap,.slice l L.length lc] w (StartEnd a cap t l lc L mv w):=by
 have hmx:(t.length:Int) ≤ 2199023255488:=by omega
 have HC:=Hd (treeCheck_ok a cap t w hE hI hOk hz)
 by_cases hc:checkN9 t = 0
 ·rw [hc] at HC
  obtain ⟨fr,hbe,hG⟩:=check_formed hc
  have hle:=hG.le
  obtain ⟨k,hk⟩:∃ k,t.length = k + 1:=⟨t.length - 1,by have:=hG.formed.pos;omega⟩
  have hk1:(t.length:Int) - 1 = (k:Int):=by omega
  have hkl:k < t.length:=by omega
  have hkd:=kindAt_is (List.getElem?_eq_getElem hkl)
  obtain ⟨ba,off,ha,hbl,x0,_⟩:=nds_at hI hkl
  subst ha
  have HI:=Hd hI
  have HE:=Hd hE
  have HS:=Hd hS
  have HCx:=Hd (fun w' (h:Below w.heap.size w w')=>show w'.cell? ⟨ba,off + k * 6,none⟩ = some (.int .i64 t[k].kind) from by rw [h.cell hbl];exact x0)
  have HFl:=Hd hbe
  have HSN:=Hd (show startN t L = if exprK t[k].kind = false then 5 else (faultN L).2 from by unfold startN;rw [if_neg (show ¬ checkN9 t ≠ 0 by simp [hc]),hk,Nat.add_sub_cancel,hkd])
  have HFr:=Hd (fun w' (h:Below w.heap.size w w')=>fronts_ok (some ⟨ba,off,none⟩) cap t fr w' ((HI.out.below h (Nat.le_refl _)).mono h.size) hle hbe)
  have HSt:=Hd (fun w' (h:Below w.heap.size w w')=>structs_ok l lc L mv w' (HE.out.below h) ((HS.out.below h).mono h.size))
  unfold StructsEnd at HSt
  clear hE hI hOk hS hc hbe hG x0 hkd hk
  generalize hkk:t[k].kind = kk at *
  go_enter Tryz.func21,Tryz.ntmps21
  go_upto_region 4 with (go_at_call 44;(with_reducible refine HC.out.mono ?_);rintro e w1 ⟨rfl,hb1⟩;have HB1:=Hd hb1;clear hb1)
  have x0:=HCx.out _ HB1.out
  by_cases hlo:kk < 1
  ·have t1:decide (kk < 1) = true:=by simpa using hlo
   have HN:=Hd (show startN t L = 5 from by rw [HSN.out,if_pos (by unfold exprK;simp;omega)])
   clear hlo
   go_wp2_with fail
   go_ret2
   exact startEnd_no _ _ _ _ _ _ _ _ HN.out (by decide) HB1.out
  have t1:decide (kk < 1) = false:=by simpa using hlo
  by_cases hhi:17 < kk
  ·have t2:decide (17 < kk) = true:=by simpa using hhi
   have HN:=Hd (show startN t L = 5 from by rw [HSN.out,if_pos (by unfold exprK;simp;omega)])
   clear hhi hlo
   go_wp2_with fail
   go_ret2
   exact startEnd_no _ _ _ _ _ _ _ _ HN.out (by decide) HB1.out
  have t2:decide (17 < kk) = false:=by simpa using hhi
  have HN:=Hd (show startN t L = (faultN L).2 from by rw [HSN.out,if_neg (by unfold exprK;simp;omega)])
  clear hhi hlo
  generalize faultN L = fl at *
  obtain ⟨fi,fc⟩:=fl
  simp only at HSt HN
  have HS1:=Hd (HSt.out _ HB1.out)
  go_upto_region 8 with (go_at_call 45;(with_reducible refine HS1.out.mono ?_);rintro e w2 ⟨rfl,hb2⟩;have HB2:=Ht HB1 hb2;clear hb2)
  obtain ⟨⟨q0,q1⟩,_⟩:=two_block (fault_blk w2 (.int .i64 fi) (.int .i64 fc))
  have HB3:=Hd (HB2.out.alloc HB2.out.size (.cells #[.int .i64 fi,.int .i64 fc] 77))
  generalize w2.alloc (.cells #[.int .i64 fi,.int .i64 fc] 77) = w3 at *
  by_cases hf0:fc = 0
  ·subst hf0
   have HFr3:=Hd (HFr.out _ HB3.out)
   go_upto_region 10 with fail
   go_wp2_with (go_at_call 46;(with_reducible refine HFr3.out.mono ?_);rintro e w4 ⟨⟨v,rfl,hrow⟩,hb4⟩;obtain ⟨pa,pc,rfl,hps,_⟩:=hrow.is;have HPs:=Hd hps;have HB4:=Ht HB3 hb4;clear hrow hps hb4)
   go_ret2
   have hbx:Below w4.heap.size w4 (w4.alloc (.cells #[.slice (some ⟨ba,off,none⟩) t.length cap,.slice l L.length lc,.slice pa fr.length pc] 82)):=ba1 _ _
   have hby:=HB4.out.trans (hbx.mono HB4.out.size)
   unfold StartEnd
   rw [if_neg (show ¬ startN t L ≠ 0 by rw [HN.out];simp)]
   exact ⟨⟨_,pa,pc,fr,rfl,⟨heap_alloc_new _ _,by simp,(HI.out.below hby (Nat.le_refl _)).mono hby.size,(HPs.out.below hbx (Nat.le_refl _)).mono hbx.size,(HS.out.below hby).mono hby.size,HE.out.below hby,Nat.le_refl _⟩,HFl.out⟩,hby⟩
  ·have t3:(fc != 0) = true:=by simpa using hf0
   have HN0:=Hd hf0
   clear hf0
   go_upto_region 9 with fail
   go_quiet (fail)
   go_wp2_with fail
   go_ret2
   exact startEnd_no _ _ _ _ _ _ _ _ HN.out HN0.out (HB3.out.trans ((Below.drewN' _ _).mono HB3.out.size))
 ·have HN:=Hd (show startN t L = checkN9 t from by unfold startN;rw [if_pos hc])
  have HN0:=Hd hc
  have t1:(checkN9 t != 0) = true:=by simpa using hc
  clear hE hI hOk hS hc
  generalize checkN9 t = c at *
  go_enter Tryz.func21,Tryz.ntmps21
  go_wp2_with (go_at_call 44;(with_reducible refine HC.out.mono ?_);rintro e w1 ⟨rfl,hb1⟩;have HB1:=Hd hb1;clear hb1)
  go_ret2
  exact startEnd_no _ _ _ _ _ _ _ _ HN.out HN0.out HB1.out
theorem start_0 (hc:startN t L = 0):Calls Tryz.prog 21 #[.slice a t.length cap,.slice l L.length lc] w fun e w'=>(∃ (f:Nat) (b:Option Addr) (cb:Nat) (fr:List Nat),e = .returned (.tuple #[.pointer (some ⟨f,0,none⟩),.int .i64 0]) ∧ FoldAt w'.heap.size w' f a cap t l lc L mv b cb fr ∧ beginsN t = some fr) ∧ Below w.heap.size w w':=
 (start_ok a cap t l lc L mv w hE hI hOk hz hS).mono fun e w' h=>by unfold StartEnd at h;rw [if_neg (show ¬ startN t L ≠ 0 by simp [hc])] at h;exact h
theorem start_n (hc:startN t L ≠ 0):Calls Tryz.prog 21 #[.slice a t.length cap,.slice l L.length lc] w fun e w'=>e = .returned (.tuple #[.pointer none,.int .i64 (startN t L)]) ∧ Below w.heap.size w w':=
 (start_ok a cap t l lc L mv w hE hI hOk hz hS).mono fun e w' h=>by unfold StartEnd at h;rw [if_pos hc] at h;exact h
set_option maxHeartbeats 4000000 in
theorem evalC_ok:Calls Tryz.prog 8 #[.slice a t.length cap,.slice l L.length lc] w fun e w'=>e = .returned (trip (evalX t L)) ∧ Below w.heap.size w w':=by
 have hmx:(t.length:Int) ≤ 2199023255488:=by omega
 by_cases hc:startN t L = 0
 ·have HSt:=Hd (start_0 a cap t l lc L mv w hE hI hOk hz hS hc)
  obtain ⟨h1,_,_⟩:=startN_0 hc
  obtain ⟨fr,hbe,hG⟩:=check_formed h1
  have hpos:=hG.formed.pos
  obtain ⟨k,hk⟩:∃ k,t.length = k + 1:=⟨t.length - 1,by omega⟩
  have hk1:(t.length:Int) - 1 = (k:Int):=by omega
  have HX:=Hd (show evalX t L = match constT L (trAt t fr k) with | none=>(0,⟨#[]⟩,120) | some v=>(v.2,v.1,0) from by
   unfold evalX trOf;rw [if_neg (show ¬ startN t L ≠ 0 by simp [hc]),hbe,hk,Nat.add_sub_cancel];rfl)
  have HCo:=Hd (fun (w':World) (f:Nat) (b:Option Addr) (cb:Nat) (h:FoldAt w'.heap.size w' f a cap t l lc L mv b cb fr)=>constant_ok hG.le hbe k (by omega) (by have:=startN_good hc hbe;rw [hk,Nat.add_sub_cancel] at this;exact this) w' h)
  have HBe:=Hd hbe
  clear hE hI hOk hS hc hbe hG h1 hk
  generalize constT L (trAt t fr k) = r at *
  go_enter Tryz.func8,Tryz.ntmps8
  go_upto_region 4 with (go_at_call 21;(with_reducible refine HSt.out.mono ?_);rintro e w1 ⟨⟨f,b,cb,fr',rfl,hfo,hbe'⟩,hb1⟩;have HFo:=Hd hfo;have HBe':=Hd hbe';have HB1:=Hd hb1;clear hfo hbe' hb1)
  obtain rfl:fr' = fr:=Option.some.inj (HBe'.out.symm.trans HBe.out)
  have HC1:=Hd (HCo.out w1 f b cb HFo.out)
  rcases r with _ | ⟨rt,rn⟩
  ·have HC2:=Hd (evalRaw0 HC1.out)
   go_wp2_with (go_at_call 22;(with_reducible refine HC2.out.mono ?_);rintro e w4 ⟨⟨vt,vn,rfl⟩,hb4⟩;have HB4:=Ht HB1 hb4;clear hb4)
   go_ret3
   exact ⟨by rw [HX.out];rfl,HB4.out.alloc HB4.out.size _⟩
  ·have HC2:=Hd (evalRaw1 HC1.out)
   go_upto_region 7 with (go_at_call 22;(with_reducible refine HC2.out.mono ?_);rintro e w4 ⟨rfl,hb4⟩;have HB4:=Ht HB1 hb4;clear hb4)
   obtain ⟨⟨q0,q1⟩,_⟩:=(numAt_new w4 (rt,rn)).cells
   go_quiet (fail)
   go_wp2_with fail
   go_ret3
   exact ⟨by rw [HX.out];rfl,(HB4.out.alloc HB4.out.size _).trans ((Below.drewN' _ _).mono (HB4.out.alloc HB4.out.size _).size)⟩
 ·have HSt:=Hd (start_n a cap t l lc L mv w hE hI hOk hz hS hc)
  have HX:=Hd (show evalX t L = (0,⟨#[]⟩,startN t L) from by unfold evalX;rw [if_pos hc])
  have t1:(startN t L != 0) = true:=by simpa using hc
  clear hE hI hOk hS hc
  generalize startN t L = c at *
  go_enter Tryz.func8,Tryz.ntmps8
  go_wp2_with (go_at_call 21;(with_reducible refine HSt.out.mono ?_);rintro e w1 ⟨rfl,hb1⟩;have HB1:=Hd hb1;clear hb1)
  go_ret3
  exact ⟨by rw [HX.out];rfl,HB1.out⟩
theorem isC_ok:Calls Tryz.prog 10 #[.slice a t.length cap,.slice l L.length lc] w fun e w'=>e = .returned (.bool ((evalX t L).2.2 == 0)) ∧ Below w.heap.size w w':=by
 have HV:=Hd (evalC_ok a cap t l lc L mv w hE hI hOk hz hS)
 unfold trip at HV
 clear hE hI hOk hS
 generalize evalX t L = r at *
 obtain ⟨r1,r2,r3⟩:=r
 simp only at HV ⊢
 go_enter Tryz.func10,Tryz.ntmps10
 go_wp2_with (go_at_call 8;(with_reducible refine HV.out.mono ?_);rintro e w1 ⟨rfl,hb1⟩;have HB1:=Hd hb1;clear hb1)
 go_ret
 exact ⟨rfl,HB1.out⟩
end
end Go.Proofs.YtlcfejgjeljjdaaGreatDoor
namespace Go.Proofs.YtlcfejgjeljjdaaGreatDoor
open Go.RowKit
theorem back_join {fr:List Nat}:∀ {n m e:Nat},Back fr n e → Back fr m (startE fr n e) → Back fr (n + m) e ∧ startE fr (n + m) e = startE fr m (startE fr n e)
 | 0,m,e,_,h=>by rw [Nat.zero_add];exact ⟨h,rfl⟩
 | n + 1,m,e,⟨h1,h2,h3⟩,h=>by
   obtain ⟨h4,h5⟩:=back_join h3 h
   rw [Nat.succ_add]
   exact ⟨⟨h1,h2,h4⟩,h5⟩
structure StartInv (fr:List Nat) (k r e:Nat):Prop where
 back:Back fr r e
 at_:startE fr r e = fr.getD k 0
 le:e ≤ k
theorem StartInv.next {t:List Nd} {fr:List Nat} {k r d:Nat} {x:Nd} (hb:beginsN t = some fr) (h:StartInv fr k (r + 1) (d + 1)) (hx:t[d]? = some x):StartInv fr k (x.n.toNat + r) d:=by
 obtain ⟨_,h2,_⟩:=(formed_of hb).node d x hx
 have h3:=start_of hb hx
 obtain ⟨b1,b2,b3⟩:=h.back
 rw [Nat.add_sub_cancel] at b3
 have h4:=h.at_
 rw [startE,Nat.add_sub_cancel] at h4
 obtain ⟨h5,h6⟩:=back_join h2 (by rw [h3];exact b3)
 exact ⟨h5,by rw [h6,h3,h4],by have:=h.le;omega⟩
set_option maxHeartbeats 4000000 in
theorem rstart_ok (a:Option Addr) (cap:Nat) (t:List Nd) (fr:List Nat) (w:World) (hI:IsNds w.heap.size w a t) (hl:t.length ≤ 4096) (hb:beginsN t = some fr) (k:Nat) (hk:k < t.length) :
 Calls Tryz.prog 75 #[.slice a t.length cap,.int .i64 (k:Int)] w fun e w'=>e = .returned (.int .i64 ((fr.getD k 0:Nat):Int)) ∧ w' = w:=by
 have hf:=formed_of hb
 have hx:=List.getElem?_eq_getElem hk
 obtain ⟨hn0,hbk,_⟩:=hf.node k _ hx
 have HSt:=Hd (show StartInv fr k t[k].n.toNat k from ⟨hbk,start_of hb hx,Nat.le_refl _⟩)
 obtain ⟨ba,off,ha,hbl,x0,x1,x2,x3,x4,x5⟩:=nds_at hI hk
 subst ha
 clear x0 x2 x3 x4 x5
 have HI:=Hd hI
 have HB:=Hd hb
 have HF:=Hd hf
 have hnk:=hbk.le
 clear hf hI hb hbk hx
 generalize t[k].n = xn at *
 obtain ⟨n,rfl⟩:∃ n:Nat,xn = (n:Int):=⟨xn.toNat,by omega⟩
 rw [Int.toNat_natCast] at *
 clear hn0
 go_enter Tryz.func75,Tryz.ntmps75
 go_wp2_with fail
 go_loopg [1,5] k (fun m v1 v5 wy=>∃ (r e:Nat),m = e ∧ v5 = .int .i64 (r:Int) ∧ v1 = .int .i64 (e:Int) ∧ Hid (StartInv fr k r e) ∧ wy = w)
 case atStart=>exact ⟨n,k,rfl,rfl,rfl,HSt,rfl⟩
 case round=>
  obtain ⟨r,e,hm,rfl,rfl,HS,rfl⟩:=hrel
  have hek:=HS.out.le
  have hre:=HS.out.back.le
  cases r with
  | zero=>
    have HFin:=Hd (show e = fr.getD k 0 from HS.out.at_)
    go_wp2_with fail
    go_ret
    exact ⟨by rw [← HFin.out];rfl,rfl⟩
  | succ r=>
    obtain ⟨d,rfl⟩:∃ d,e = d + 1:=⟨e - 1,by have:=HS.out.back.1;omega⟩
    have hd:d < t.length:=by omega
    have HN:=Hd (HS.out.next HB.out (List.getElem?_eq_getElem hd))
    have hn1:=(HF.out.node d _ (List.getElem?_eq_getElem hd)).1
    obtain ⟨bb,oo,hbb,_,y0,y1,y2,y3,y4,y5⟩:=nds_at HI.out hd
    cases hbb
    clear y0 y2 y3 y4 y5
    generalize t[d].n = yn at *
    obtain ⟨q,rfl⟩:∃ q:Nat,yn = (q:Int):=⟨yn.toNat,by omega⟩
    rw [Int.toNat_natCast] at *
    have hq:=HN.out.back.le
    clear hn1
    go_wp2_with fail
    go_roundg d
    case measure=>omega
    case rel=>exact ⟨q + r,d,rfl,by congr 1;omega,rfl,HN,rfl⟩
set_option maxRecDepth 100000 in
set_option maxHeartbeats 8000000 in
theorem rparts_ok (a:Option Addr) (cap:Nat) (t:List Nd) (fr:List Nat) (w:World) (hI:IsNds w.heap.size w a t) (hl:t.length ≤ 4096) (hb:beginsN t = some fr) (k:Nat) (hk:k < t.length) :
 Calls Tryz.prog 51 #[.slice a t.length cap,.int .i64 (k:Int)] w (PartEnd (partsAt t fr k) w):=by
 have hf:=formed_of hb
 obtain ⟨hn0,hbk,_⟩:=hf.node k _ (List.getElem?_eq_getElem hk)
 rw [partsAt_is (List.getElem?_eq_getElem hk)]
 obtain ⟨ba,off,ha,hbl,x0,x1,x2,x3,x4,x5⟩:=nds_at hI hk
 subst ha
 clear x0 x2 x3 x4 x5
 have HSt:=Hd (fun w' (h:Below w.heap.size w w') d (hd:d < t.length)=>rstart_ok (some ⟨ba,off,none⟩) cap t fr w' ((hI.below h (Nat.le_refl _)).mono h.size) hl hb d hd)
 clear hf hI hb
 generalize t[k].n = xn at *
 obtain ⟨n,rfl⟩:∃ n:Nat,xn = (n:Int):=⟨xn.toNat,by omega⟩
 rw [Int.toNat_natCast] at *
 have hnk:=hbk.le
 have HBk:=Hd hbk
 obtain ⟨i0,hi,hz0,hz1,hz2⟩:=info_parts infoInt
 have HI0:=Hd (And.intro hi (And.intro hz0 (And.intro hz1 hz2)))
 have HNum:=Hd (show i0.bytes * n ≤ 281474976710656 ∧ n ≤ maxLen from ⟨by rw [hz2];omega,by unfold maxLen;omega⟩)
 clear hi hz0 hz1 hz2 hbk hn0
 go_enter Tryz.func51,Tryz.ntmps51
 go_wp2_with (at_make;go_loud (refine wpList_make_full _ rfl _ _ _ rfl w.heap.size 3 i0 (.int .i64 0) 1 Tryz.underlying79 HI0.out.1 HI0.out.2.1 HI0.out.2.2.1 .i64 .i64 (n:Int) (n:Int) n rfl rfl rfl rfl HNum.out.1 HNum.out.2 (Nat.le_refl _) ?_))
 intro w1 hown1 hgrow1
 have hb1:Below w.heap.size w w1:=(Below.refl _ _).grown hgrow1 (Nat.le_refl _) (fun k hk=>by simp at hk)
 have HP0:=Hd (show PartInv w fr n k w1 n k [] from ⟨by simp,by simp,HBk.out,Nat.le_refl _,⟨_,hown1,fun i x h=>by simp at h⟩,hb1⟩)
 have x1':=x1
 rw [← hb1.cell hbl] at x1'
 clear hown1 hgrow1 hb1
 go_wp2_with fail
 go_loopg [6,7] n (fun m v6 v7 wy=>∃ (r e:Nat) (x y:Int) (tail:List Nat),m = r ∧ r ≤ n ∧ v7 = .int .i64 x ∧ v6 = .int .i64 y ∧ x = (r:Int) - 1 ∧ y = (e:Int) - 1 ∧ Hid (PartInv w fr n k wy r e tail))
 case atStart=>exact ⟨n,k,_,_,[],rfl,Nat.le_refl _,rfl,rfl,rfl,rfl,HP0⟩
 case round=>
  obtain ⟨r,e,x,y,tail,hm,hrn,rfl,rfl,hx,hy,HP⟩:=hrel
  have hek:=HP.out.le
  cases r with
  | zero=>
    have t1:decide (0 ≤ x) = false:=by simp;omega
    go_wp2_with fail
    go_ret
    exact partEnd HP.out.done (Below.refl _ _) HP.out.below
  | succ r=>
    obtain ⟨d,rfl⟩:∃ d,e = d + 1:=⟨e - 1,by have:=HP.out.back.1;omega⟩
    obtain rfl:x = (r:Int):=by omega
    obtain rfl:y = (d:Int):=by omega
    clear hx hy
    have t1:decide (0 ≤ (r:Int)) = true:=by simp
    obtain ⟨⟨u,c1⟩,c2⟩:=HP.out.cell
    have HN:=Hd HP.out.next
    have HS1:=Hd (HSt.out _ HN.out.below d (by omega))
    have hfd:fr.getD d 0 ≤ d:=by have:=HP.out.back.2.1;rw [Nat.add_sub_cancel] at this;omega
    generalize fr.getD d 0 = q at *
    go_wp2_with (go_at_call 75;(with_reducible refine HS1.out.mono ?_);rintro e w4 ⟨rfl,hw4⟩;subst w4)
    go_roundg r
    case measure=>omega
    case rel=>exact ⟨r,q,_,_,d :: tail,rfl,by omega,rfl,rfl,by omega,by omega,HN⟩
end Go.Proofs.YtlcfejgjeljjdaaGreatDoor
namespace Go.Proofs.YtlcfejgjeljjdaaGreatDoor
open Go.RowKit
theorem cut_id {n:Nat} (h:n ≤ 65536):cutN n = n:=by unfold cutN;omega
set_option maxRecDepth 100000 in
set_option maxHeartbeats 4000000 in
theorem refSizeAll_ok (s:ByteArray) (a:Option Addr) (cap:Nat) (L:List Sr) (mv:List Value) (w:World) (hS:IsSrs w.heap.size w a L mv) (hcap:L.length ≤ cap) (hcm:cap ≤ maxLen) :
 Calls Tryz.prog 52 #[.string s,.slice a L.length cap] w fun e w'=>e = .returned (.tuple #[.int .i64 (sizeR L s).1,.int .i64 (sizeR L s).2.1,.int .i64 (sizeR L s).2.2]) ∧ Below w.heap.size w w':=by
 have HS:=Hd hS
 have hC:=refCheckAll_ok s a cap L mv w hS hcap hcm
 clear hS
 have hcase:(∃ c:Int,checkN L s = c ∧ c ≠ 0 ∧ sizeR L s = (0,0,c)) ∨ (checkN L s = 0 ∧ ∃ K t,learnK L = .inr K ∧ tyS s = some t ∧ checkT K t = 0):=by
  rcases hl:learnK L with ⟨i,c⟩ | K
  ·exact .inl ⟨c,checkN_bad hl,learnK_ne hl,sizeR_struct hl⟩
  ·by_cases hc:checkS K s = 0
   ·obtain ⟨t,ht⟩:∃ t,tyS s = some t:=by
     cases ht:tyS s with
     | none=>rw [checkS_none ht] at hc;simp at hc
     | some t=>exact ⟨t,rfl⟩
    exact .inr ⟨(checkN_ok hl).trans hc,K,t,rfl,ht,by rw [checkS_some ht] at hc;exact hc⟩
   ·exact .inl ⟨_,checkN_ok hl,hc,sizeR_check hl hc⟩
 rcases hcase with ⟨c,h1,h2,h3⟩ | ⟨h1,K,t,hl,ht,hct⟩
 ·have hfin:=Hd h3
  rw [h1] at hC
  have HC:=Hd hC
  have t1:(c != 0) = true:=by simp [h2]
  clear hC h1 h2 h3
  go_enter Tryz.func52,Tryz.ntmps52
  go_wp2_with (go_at_call 86;(with_reducible refine HC.out.mono ?_);rintro e w1 ⟨rfl,hb1⟩;have HB1:=Hd hb1;clear hb1)
  exact bodyPost_ret (v:=.tuple #[.int .i64 0,.int .i64 0,.int .i64 c]) (by simp [results,Tryz.results52,go_sem]) rfl ⟨by rw [hfin.out],HB1.out⟩
 ·rw [h1] at hC
  have HC:=Hd hC
  obtain ⟨hst,hrt,hlt⟩:=tyS_some.1 ht
  have HO:=Hd fun w5=>refObject_ok t hrt w5
  have hk:=learnK_knows hl
  obtain ⟨hth,_,_⟩:=check_there hct
  have hms:=meas_bd hk.fit t hct
  have HSz:=Hd (fun w1 (hb:Below w.heap.size w w1)=>refSize_ok K L a cap mv hk.good hk.list K.length _ t (Nat.le_refl _) hrt hlt (by rw [List.take_length];exact hth) w1 ((HS.out.below hb).mono hb.size))
  rw [cut_id hms] at HSz
  rw [← hst] at HO HSz
  rcases hob:objectT t with _ | _
  ·rw [hob] at HO
   have hfin:=Hd (sizeR_object hl ht hct hob)
   clear hC h1 hst hrt hlt hth hms hk hl ht hct hob
   go_enter Tryz.func52,Tryz.ntmps52
   go_wp2_with (first | (go_at_call 86;(with_reducible refine HC.out.mono ?_);rintro e w1 ⟨rfl,hb1⟩;have HB1:=Hd hb1;clear hb1) | (go_at_call 87;(with_reducible refine (HO.out _).mono ?_);rintro e w6 ⟨rfl,hw6⟩;subst w6))
   exact bodyPost_ret (v:=.tuple #[.int .i64 0,.int .i64 0,.int .i64 5]) (by simp [results,Tryz.results52,go_sem]) rfl ⟨by rw [hfin.out],HB1.out⟩
  ·rw [hob] at HO
   have hfin:=Hd (sizeR_yes hl ht hct hob)
   clear hC h1 hst hrt hlt hth hms hk hl ht hct hob
   generalize measT K t = p at *
   obtain ⟨p1,p2⟩:=p
   go_enter Tryz.func52,Tryz.ntmps52
   go_wp2_with (first | (go_at_call 86;(with_reducible refine HC.out.mono ?_);rintro e w1 ⟨rfl,hb1⟩;have HB1:=Hd hb1;have HS1:=Hd (HSz.out _ hb1);clear hb1) | (go_at_call 87;(with_reducible refine (HO.out _).mono ?_);rintro e w6 ⟨rfl,hw6⟩;subst w6) | (go_at_call 88;(with_reducible refine HS1.out.mono ?_);rintro e w7 ⟨rfl,hb7⟩;have HB7:=Ht HB1 hb7;clear hb7))
   exact bodyPost_ret (v:=.tuple #[.int .i64 (p1:Int),.int .i64 (p2:Int),.int .i64 0]) (by simp [results,Tryz.results52,go_sem]) rfl ⟨by rw [hfin.out],HB7.out⟩
end Go.Proofs.YtlcfejgjeljjdaaGreatDoor
