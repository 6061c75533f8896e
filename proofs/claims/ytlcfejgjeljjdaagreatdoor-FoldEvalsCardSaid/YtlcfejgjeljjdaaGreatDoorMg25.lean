/- What a tree comes to: the reference of fold as the package o · Trees with their constants reckoned: the program. -/
import Derived.Test.YtlcfejgjeljjdaaGreatDoorMg24
import Derived.Test.YtlcfejgjeljjdaaGreatDoorMg20
import Derived.Test.YtlcfejgjeljjdaaGreatDoorMg22
import Derived.Test.YtlcfejgjeljjdaaGreatDoorFoldL
import Derived.Test.YtlcfejgjeljjdaaGreatDoorMg23
namespace Go.Proofs.YtlcfejgjeljjdaaGreatDoor
open Go.RowKit
section
variable (a:Option Addr) (cap:Nat) (t:List Nd) (l:Option Addr) (lc:Nat) (L:List Sr) (mv:List Value) (w:World) (hA:RAt w a t l L mv) (hOk:∀ x ∈ t,NdOk x) (hz:t.length * 64 ≤ 140737488351232) (hlc:L.length ≤ lc) (hcm:lc ≤ maxLen)
include hA hOk hz hlc hcm
set_option maxRecDepth 100000 in
set_option maxHeartbeats 4000000 in
theorem rlooked_ok:Calls Tryz.prog 23 #[.slice a t.length cap,.slice l L.length lc] w fun e w'=>e = .returned (.int .i64 (startN t L)) ∧ Below w.heap.size w w':=by
 have hmx:(t.length:Int) ≤ 2199023255488:=by omega
 have HC:=Hd (refCheck9_ok a cap t w hA.nodes hOk hz)
 by_cases hc:checkN9 t = 0
 ·rw [hc] at HC
  obtain ⟨fr,hbe,hG⟩:=check_formed hc
  obtain ⟨k,hk⟩:∃ k,t.length = k + 1:=⟨t.length - 1,by have:=hG.formed.pos;omega⟩
  have hk1:(t.length:Int) - 1 = (k:Int):=by omega
  have hkl:k < t.length:=by omega
  have hkd:=kindAt_is (List.getElem?_eq_getElem hkl)
  obtain ⟨ba,off,ha,hbl,x0,_⟩:=nds_at hA.nodes hkl
  subst ha
  have HA:=Hd hA
  have HCx:=Hd (fun w' (h:Below w.heap.size w w')=>show w'.cell? ⟨ba,off + k * 6,none⟩ = some (.int .i64 t[k].kind) from by rw [h.cell hbl];exact x0)
  have HSN:=Hd (show startN t L = if exprK t[k].kind = false then 5 else (faultN L).2 from by unfold startN;rw [if_neg (show ¬ checkN9 t ≠ 0 by simp [hc]),hk,Nat.add_sub_cancel,hkd])
  have HSt:=Hd (fun w' (h:Below w.heap.size w w')=>refStructs_ok l lc L mv w' (HA.out.below h).srs hlc hcm)
  unfold StructsEnd at HSt
  clear hA hOk hc hbe hG x0 hkd hk
  generalize hkk:t[k].kind = kk at *
  go_enter Tryz.func23,Tryz.ntmps23
  go_upto_region 4 with (go_at_call 49;(with_reducible refine HC.out.mono ?_);rintro e w1 ⟨rfl,hb1⟩;have HB1:=Hd hb1;clear hb1)
  have x0:=HCx.out _ HB1.out
  by_cases hlo:kk < 1
  ·have t1:decide (kk < 1) = true:=by simpa using hlo
   have HN:=Hd (show startN t L = 5 from by rw [HSN.out,if_pos (by unfold exprK;simp;omega)])
   clear hlo
   go_wp2_with fail
   go_ret
   exact ⟨by rw [HN.out];rfl,HB1.out⟩
  have t1:decide (kk < 1) = false:=by simpa using hlo
  by_cases hhi:17 < kk
  ·have t2:decide (17 < kk) = true:=by simpa using hhi
   have HN:=Hd (show startN t L = 5 from by rw [HSN.out,if_pos (by unfold exprK;simp;omega)])
   clear hhi hlo
   go_wp2_with fail
   go_ret
   exact ⟨by rw [HN.out];rfl,HB1.out⟩
  have t2:decide (17 < kk) = false:=by simpa using hhi
  have HN:=Hd (show startN t L = (faultN L).2 from by rw [HSN.out,if_neg (by unfold exprK;simp;omega)])
  clear hhi hlo
  generalize faultN L = fl at *
  obtain ⟨fi,fc⟩:=fl
  simp only at HSt HN
  have HS1:=Hd (HSt.out _ HB1.out)
  have hfd:∀ w:World,(Instr.field 77 (.agg #[.int .i64 fi,.int .i64 fc]) 1).run Tryz.prog w = .ok (.int .i64 fc) w:=fun _=>by kernel_rfl
  go_wp2_with (go_at_call 50;(with_reducible refine HS1.out.mono ?_);rintro e w2 ⟨rfl,hb2⟩;have HB2:=Ht HB1 hb2;clear hb2)
  go_ret
  exact ⟨by rw [HN.out];rfl,HB2.out⟩
 ·have HN0:=Hd hc
  have HN:=Hd (show startN t L = checkN9 t from by unfold startN;rw [if_pos hc])
  have t1:(checkN9 t != 0) = true:=by simpa using hc
  clear hA hOk hc
  generalize checkN9 t = c at *
  go_enter Tryz.func23,Tryz.ntmps23
  go_wp2_with (go_at_call 49;(with_reducible refine HC.out.mono ?_);rintro e w1 ⟨rfl,hb1⟩;have HB1:=Hd hb1;clear hb1)
  go_ret
  exact ⟨by rw [HN.out];rfl,HB1.out⟩
end
end Go.Proofs.YtlcfejgjeljjdaaGreatDoor
namespace Go.Proofs.YtlcfejgjeljjdaaGreatDoor
open Go.RowKit
theorem flatAll_map (G:Nat → Tr) (P:List Nat):flatAll (P.map G) = (P.map fun p=>(G p).flat).flatten:=by
 induction P with
 | nil=>rfl
 | cons p r ih=>rw [List.map_cons,flatAll,ih,List.map_cons,List.flatten_cons]
theorem flatAll_le {ps:List Tr} {f:Tr → Tr} (h:∀ T ∈ ps,(f T).flat.length ≤ T.flat.length):(flatAll (ps.map f)).length ≤ (flatAll ps).length:=by
 induction ps with
 | nil=>simp [flatAll]
 | cons T r ih=>
   rw [List.map_cons,flatAll,flatAll,List.length_append,List.length_append]
   have h1:=h T List.mem_cons_self
   have h2:=ih fun S hS=>h S (List.mem_cons_of_mem _ hS)
   omega
theorem const_range {L:List Sr} {T:Tr} (hg:GoodT T) {v:Num} (h:constT L T = some v):-4294967296 ≤ v.2 ∧ v.2 ≤ 4294967296:=by
 unfold constT at h
 split at h
 ·rename_i hs
  have:=((eval_kind (sizes_ok L) T hg hs).2 v h).2
  unfold Kept at this
  have hr:=asI_range v.2 v.1
  omega
 ·cases h
section
variable {f:Nat} {a:Option Addr} {cap:Nat} {t:List Nd} {l:Option Addr} {lc:Nat} {L:List Sr} {mv:List Value} {b:Option Addr} {cb:Nat} {fr:List Nat} {B:Nat}
theorem fold_ok (hl:t.length ≤ 4096) (hcap:t.length ≤ cap) (hb:beginsN t = some fr) (k:Nat):k < t.length → GoodT (trAt t fr k) → ∀ w,FoldAt B w f a cap t l lc L mv b cb fr → Calls Tryz.prog 42 #[.pointer (some ⟨f,0,none⟩),.int .i64 (k:Int)] w (FoldEnd (foldT L (trAt t fr k)).flat w):=by
 have hf:=formed_of hb
 induction k using Nat.strongRecOn with
 | ind k ih=>
   intro hk hg w hFo
   have hx:=List.getElem?_eq_getElem hk
   have hgx:t.getD k nd0 = t[k]'hk:=by rw [List.getD_eq_getElem?_getD,hx];rfl
   have e:=trAt_eq hf k
   rw [hgx] at e
   obtain ⟨_,_,hsk⟩:=hf.node k _ hx
   have hg':=hg
   rw [e] at hg'
   obtain ⟨hn,hgn,hgs⟩:=good_node.1 hg'
   have hgp:∀ p ∈ partsAt t fr k,GoodT (trAt t fr p):=fun p hp=>hgs _ (List.mem_map.2 ⟨p,hp,rfl⟩)
   have hpl:∀ p ∈ partsAt t fr k,p < t.length:=fun p hp=>by have:=hf.parts_lt hp;omega
   have hflat:=flatT_at hb k hk
   have hlen:(trAt t fr k).flat.length ≤ 4096:=by
    rw [hflat,seg_len (by omega) (by omega)];omega
   have hsum:((partsAt t fr k).map fun p=>(foldT L (trAt t fr p)).flat).flatten.length < 4096:=by
    have h1:=flatAll_le (ps:=(partsAt t fr k).map (trAt t fr)) (f:=foldT L) fun T hT=>(fold_main (sizes_ok L) T (hgs T hT)).2.2.1
    rw [List.map_map] at h1
    have h2:=flatAll_map (foldT L ∘ trAt t fr) (partsAt t fr k)
    rw [h2] at h1
    have h3:(trAt t fr k).flat.length = (flatAll ((partsAt t fr k).map (trAt t fr))).length + 1:=by rw [e,Tr.flat,List.length_append];rfl
    have h4:((partsAt t fr k).map fun p=>((foldT L ∘ trAt t fr) p).flat) = ((partsAt t fr k).map fun p=>(foldT L (trAt t fr p)).flat):=rfl
    rw [h4] at h1
    omega
   have key:=fold_step (F:=fun p=>(foldT L (trAt t fr p)).flat) (c:=constT L (trAt t fr k)) w hFo hl hcap hf hx rfl rfl hsk (fun p _ h=>by have:=flat_pos (foldT L (trAt t fr p));rw [h] at this;simp at this) hsum
    (fun h16=>by
      unfold constT
      rw [if_neg]
      rw [e,shapT_node,Bool.and_eq_true]
      rintro ⟨_,h⟩
      have:=shN_kinds h
      omega)
    (fun v hv=>const_range hg hv)
    (fun w' h'=>constant_ok hl hb k hk hg w' h')
    (fun p hp w' h'=>ih p (hf.parts_lt hp) (hpl p hp) (hgp p hp) w' h')
   have hR:foldR (wrF (constT L (trAt t fr k)) (t[k]'hk)) (t[k]'hk) (segN t (fr.getD k 0) (k + 1)) ((partsAt t fr k).map fun p=>(foldT L (trAt t fr p)).flat) = (foldT L (trAt t fr k)).flat:=by
    have hw:wrF (constT L (trAt t fr k)) (t[k]'hk) = wrT L (trAt t fr k):=by
     unfold wrT wrF
     rw [e]
     rfl
    rw [hw]
    unfold foldR
    rcases hwr:wrT L (trAt t fr k) with _ | W
    ·simp only
     by_cases h16:(t[k]'hk).kind = 16
     ·rw [if_pos h16,← hflat]
      rw [e] at hwr ⊢
      rw [foldT_sz hwr h16]
     ·rw [if_neg h16]
      rw [e] at hwr ⊢
      rw [foldT_in hwr h16,Tr.flat,List.map_map,flatAll_map]
      rfl
    ·simp only
     rw [foldT_wr hwr]
   rw [hR] at key
   exact key
end
end Go.Proofs.YtlcfejgjeljjdaaGreatDoor
