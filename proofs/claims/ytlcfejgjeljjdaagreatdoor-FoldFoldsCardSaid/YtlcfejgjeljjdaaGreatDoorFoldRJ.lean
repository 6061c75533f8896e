/- Any part with its constants reckoned: the reference of fold. -/
import Derived.Test.YtlcfejgjeljjdaaGreatDoorFoldRH
import Derived.Test.YtlcfejgjeljjdaaGreatDoorMg25
namespace Go.Proofs.YtlcfejgjeljjdaaGreatDoor
open Go.RowKit
section
variable {a:Option Addr} {cap:Nat} {t:List Nd} {l:Option Addr} {lc:Nat} {L:List Sr} {mv:List Value} {fr:List Nat}
theorem folded_ok (hl:t.length ≤ 4096) (hcap:t.length ≤ cap) (hb:beginsN t = some fr) (hlc:L.length ≤ lc) (hcm:lc ≤ maxLen) (k:Nat):k < t.length → GoodT (trAt t fr k) → ∀ w,RAt w a t l L mv → Calls Tryz.prog 43 #[.slice a t.length cap,.slice l L.length lc,.int .i64 (k:Int)] w (FoldEnd (foldT L (trAt t fr k)).flat w):=by
 have hf:=formed_of hb
 induction k using Nat.strongRecOn with
 | ind k ih=>
   intro hk hg w hA
   have hsu:=fun w' (h:RAt w' a t l L mv)=>such_ok (cap:=cap) hl hb hlc hcm k hk hg w' h
   have hva:=fun hs w' (h:RAt w' a t l L mv)=>value_ok (cap:=cap) hl hb hlc hcm k hk hg hs w' h
   have hek:=fun hs=>eval_kind (sizes_ok L) _ hg hs
   have hx:=List.getElem?_eq_getElem hk
   have hgx:t.getD k nd0 = t[k]'hk:=by rw [List.getD_eq_getElem?_getD,hx];rfl
   have e:=trAt_eq hf k
   rw [hgx] at e
   obtain ⟨_,_,hsk⟩:=hf.node k _ hx
   have hg':=hg
   rw [e] at hg'
   obtain ⟨hn,hgn,hgs⟩:=good_node.1 hg'
   have hgp:∀ p ∈ partsAt t fr k,GoodT (trAt t fr p):=fun p hp=>hgs _ (List.mem_map.2 ⟨p,hp,rfl⟩)
   have hpl:∀ p ∈ partsAt t fr k,p < t.length:=fun p hp=>by have:=hf.parts_lt hp;omega
   have hflat:=flatT_at hb k hk
   have hlen:(trAt t fr k).flat.length ≤ 4096:=by
    rw [hflat,seg_len (by omega) (by omega)];omega
   have hsum:((partsAt t fr k).map fun p=>(foldT L (trAt t fr p)).flat).flatten.length < 4096:=by
    have h1:=flatAll_le (ps:=(partsAt t fr k).map (trAt t fr)) (f:=foldT L) fun T hT=>(fold_main (sizes_ok L) T (hgs T hT)).2.2.1
    rw [List.map_map] at h1
    have h2:=flatAll_map (foldT L ∘ trAt t fr) (partsAt t fr k)
    rw [h2] at h1
    have h3:(trAt t fr k).flat.length = (flatAll ((partsAt t fr k).map (trAt t fr))).length + 1:=by rw [e,Tr.flat,List.length_append];rfl
    have h4:((partsAt t fr k).map fun p=>((foldT L ∘ trAt t fr) p).flat) = ((partsAt t fr k).map fun p=>(foldT L (trAt t fr p)).flat):=rfl
    rw [h4] at h1
    omega
   have hkx:1 ≤ (t[k]'hk).kind ∧ (t[k]'hk).kind ≤ 17:=by
    have:=hgn.2
    unfold exprK at this
    simpa using this
   have hnk:(t[k]'hk).kind = 16 → shapT L (trAt t fr k) = false:=fun h16=>by
    rw [← Bool.not_eq_true,e,shapT_node,Bool.and_eq_true]
    rintro ⟨_,h⟩
    have:=shN_kinds h
    omega
   have hev:∀ v,(if shapT L (trAt t fr k) then evalT L (trAt t fr k) else none) = some v → v.1 = kindT (trAt t fr k) ∧ Kept v:=fun v hv=>by
    split at hv
    ·rename_i hs
     exact (hek hs).2 v hv
    ·cases hv
   have key:=folded_step (F:=fun p=>(foldT L (trAt t fr p)).flat) (sh:=shapT L (trAt t fr k)) (kd:=kindT (trAt t fr k)) (ev:=if shapT L (trAt t fr k) then evalT L (trAt t fr k) else none) w hA hl hcap hb hx rfl rfl hsk (fun p _ h=>by have:=flat_pos (foldT L (trAt t fr p));rw [h] at this;simp at this) hsum
    hnk hkx (fun hs=>(hek hs).1) hev hsu (fun hs w' h'=>by rw [hs];exact hva hs w' h')
    (fun p hp w' h'=>ih p (hf.parts_lt hp) (hpl p hp) (hgp p hp) w' h')
   have hR:foldR (wrF (if shapT L (trAt t fr k) then (if shapT L (trAt t fr k) then evalT L (trAt t fr k) else none) else none) (t[k]'hk)) (t[k]'hk) (segN t (fr.getD k 0) (k + 1)) ((partsAt t fr k).map fun p=>(foldT L (trAt t fr p)).flat) = (foldT L (trAt t fr k)).flat:=by
    have hc:(if shapT L (trAt t fr k) then (if shapT L (trAt t fr k) then evalT L (trAt t fr k) else none) else none) = constT L (trAt t fr k):=by
     unfold constT
     rcases shapT L (trAt t fr k) with _ | _ <;> rfl
    rw [hc]
    have hw:wrF (constT L (trAt t fr k)) (t[k]'hk) = wrT L (trAt t fr k):=by
     unfold wrT wrF
     rw [e]
     rfl
    rw [hw]
    unfold foldR
    rcases hwr:wrT L (trAt t fr k) with _ | W
    ·simp only
     by_cases h16:(t[k]'hk).kind = 16
     ·rw [if_pos h16,← hflat]
      rw [e] at hwr ⊢
      rw [foldT_sz hwr h16]
     ·rw [if_neg h16]
      rw [e] at hwr ⊢
      rw [foldT_in hwr h16,Tr.flat,List.map_map,flatAll_map]
      rfl
    ·simp only
     rw [foldT_wr hwr]
   rw [hR] at key
   exact key
end
section
variable (a:Option Addr) (cap:Nat) (t:List Nd) (l:Option Addr) (lc:Nat) (L:List Sr) (mv:List Value) (w:World) (hA:RAt w a t l L mv) (hOk:∀ x ∈ t,NdOk x) (hz:t.length * 64 ≤ 140737488351232) (hlc:L.length ≤ lc) (hcm:lc ≤ maxLen)
include hA hOk hz hlc hcm
set_option maxHeartbeats 4000000 in
theorem rfold_0 (hcap:t.length ≤ cap) (hc:startN t L = 0):Calls Tryz.prog 20 #[.slice a t.length cap,.slice l L.length lc] w fun e w'=>(∃ v,e = .returned (.tuple #[v,.int .i64 0]) ∧ NdRow w' w.heap.size v (foldT L (trOf t)).flat) ∧ Below w.heap.size w w':=by
 have hmx:(t.length:Int) ≤ 2199023255488:=by omega
 have HLk:=Hd (hc ▸ rlooked_ok a cap t l lc L mv w hA hOk hz hlc hcm)
 obtain ⟨h1,_,_⟩:=startN_0 hc
 obtain ⟨fr,hbe,hG⟩:=check_formed h1
 have hpos:=hG.formed.pos
 obtain ⟨k,hk⟩:∃ k,t.length = k + 1:=⟨t.length - 1,by omega⟩
 have hk1:(t.length:Int) - 1 = (k:Int):=by omega
 have hTr:trOf t = trAt t fr k:=by unfold trOf;rw [hbe,hk,Nat.add_sub_cancel];rfl
 rw [hTr]
 have HFd:=Hd (fun (w':World) (h:RAt w' a t l L mv)=>folded_ok hG.le hcap hbe hlc hcm k (by omega) (by have:=startN_good hc hbe;rw [hk,Nat.add_sub_cancel] at this;exact this) w' h)
 unfold FoldEnd at HFd
 have HA:=Hd hA
 clear hA hOk hc hbe hG h1 hk hTr
 generalize (foldT L (trAt t fr k)).flat = R at *
 go_enter Tryz.func20,Tryz.ntmps20
 go_wp2_with (first
  | (go_at_call 23;(with_reducible refine HLk.out.mono ?_);rintro e w1 ⟨rfl,hb1⟩;have HB1:=Hd hb1;have HC1:=Hd (HFd.out w1 (HA.out.below hb1));clear hb1)
  | (go_at_call 43;(with_reducible refine HC1.out.mono ?_);rintro e w4 ⟨⟨v4,rfl,hr4⟩,hb4⟩;have HR4:=Hd hr4;have HB4:=Ht HB1 hb4;clear hr4 hb4))
 go_ret2
 exact ⟨⟨_,rfl,ndRow_le HR4.out HB1.out.size⟩,HB4.out⟩
set_option maxHeartbeats 4000000 in
theorem rfold_n (hc:startN t L ≠ 0):Calls Tryz.prog 20 #[.slice a t.length cap,.slice l L.length lc] w fun e w'=>e = .returned (.tuple #[.slice none 0 0,.int .i64 (startN t L)]) ∧ Below w.heap.size w w':=by
 have HSt:=Hd (rlooked_ok a cap t l lc L mv w hA hOk hz hlc hcm)
 have t1:(startN t L != 0) = true:=by simpa using hc
 clear hA hOk hc
 generalize startN t L = c at *
 go_enter Tryz.func20,Tryz.ntmps20
 go_wp2_with (go_at_call 23;(with_reducible refine HSt.out.mono ?_);rintro e w1 ⟨rfl,hb1⟩;have HB1:=Hd hb1;clear hb1)
 go_ret2
 exact ⟨rfl,HB1.out⟩
set_option maxHeartbeats 4000000 in
theorem reval_ok:Calls Tryz.prog 9 #[.slice a t.length cap,.slice l L.length lc] w fun e w'=>e = .returned (trip (evalX t L)) ∧ Below w.heap.size w w':=by
 have hmx:(t.length:Int) ≤ 2199023255488:=by omega
 have HLk:=Hd (rlooked_ok a cap t l lc L mv w hA hOk hz hlc hcm)
 by_cases hc:startN t L = 0
 ·rw [hc] at HLk
  obtain ⟨h1,_,_⟩:=startN_0 hc
  obtain ⟨fr,hbe,hG⟩:=check_formed h1
  have hpos:=hG.formed.pos
  obtain ⟨k,hk⟩:∃ k,t.length = k + 1:=⟨t.length - 1,by omega⟩
  have hk1:(t.length:Int) - 1 = (k:Int):=by omega
  have hgd:GoodT (trAt t fr k):=by have:=startN_good hc hbe;rw [hk,Nat.add_sub_cancel] at this;exact this
  have HX:=Hd (show evalX t L = match constT L (trAt t fr k) with | none=>(0,⟨#[]⟩,120) | some v=>(v.2,v.1,0) from by
   unfold evalX trOf;rw [if_neg (show ¬ startN t L ≠ 0 by simp [hc]),hbe,hk,Nat.add_sub_cancel];rfl)
  have hsu:=fun (w':World) (h:RAt w' a t l L mv)=>such_ok (cap:=cap) hG.le hbe hlc hcm k (by omega) hgd w' h
  have hva:=fun hs (w':World) (h:RAt w' a t l L mv)=>value_ok (cap:=cap) hG.le hbe hlc hcm k (by omega) hgd hs w' h
  have hek:=fun hs=>eval_kind (sizes_ok L) _ hgd hs
  unfold constT at HX
  unfold SuchEnd at hsu
  have HA:=Hd hA
  rcases hs:shapT L (trAt t fr k) with _ | _
  ·rw [hs] at HX hsu
   have HSu:=Hd hsu
   clear hA hOk hc hbe hG h1 hk hgd hsu hva hek hs
   go_enter Tryz.func9,Tryz.ntmps9
   go_wp2_with (first
    | (go_at_call 23;(with_reducible refine HLk.out.mono ?_);rintro e w1 ⟨rfl,hb1⟩;have HB1:=Hd hb1;have HC1:=Hd (HSu.out w1 (HA.out.below hb1));clear hb1)
    | (go_at_call 24;(with_reducible refine HC1.out.mono ?_);rintro e w4 ⟨⟨u,rfl,_⟩,hb4⟩;have HB4:=Ht HB1 hb4;clear hb4))
   go_ret3
   exact ⟨by rw [HX.out];rfl,HB4.out⟩
  ·have hva:=hva hs
   have hek:=hek hs
   rw [hs] at HX hsu
   simp only [if_true] at HX
   have HSu:=Hd hsu
   clear hA hOk hc hbe hG h1 hk hgd hsu hs
   generalize evalT L (trAt t fr k) = r at *
   generalize kindT (trAt t fr k) = kd at *
   rcases r with _ | ⟨rt,rn⟩
   ·have HVa:=Hd (fun w' h=>valRaw0 (hva w' h))
    clear hva hek
    go_enter Tryz.func9,Tryz.ntmps9
    go_wp2_with (first
     | (go_at_call 23;(with_reducible refine HLk.out.mono ?_);rintro e w1 ⟨rfl,hb1⟩;have HB1:=Hd hb1;have HC1:=Hd (HSu.out w1 (HA.out.below hb1));clear hb1)
     | (go_at_call 24;(with_reducible refine HC1.out.mono ?_);rintro e w4 ⟨⟨u,rfl,hu⟩,hb4⟩;obtain rfl:=hu (by first | rfl | trivial);have HB4:=Ht HB1 hb4;have HC4:=Hd (HVa.out w4 (HA.out.below HB4.out));clear hb4 hu)
     | (go_at_call 25;(with_reducible refine HC4.out.mono ?_);rintro e w5 ⟨⟨n1,rfl⟩,hb5⟩;have HB5:=Ht HB4 hb5;clear hb5))
    go_ret3
    exact ⟨by rw [HX.out];rfl,HB5.out⟩
   ·obtain rfl:rt = kd:=(hek.2 _ rfl).1
    have HVa:=Hd (fun w' h=>valRaw1 (hva w' h))
    clear hva hek
    go_enter Tryz.func9,Tryz.ntmps9
    go_wp2_with (first
     | (go_at_call 23;(with_reducible refine HLk.out.mono ?_);rintro e w1 ⟨rfl,hb1⟩;have HB1:=Hd hb1;have HC1:=Hd (HSu.out w1 (HA.out.below hb1));clear hb1)
     | (go_at_call 24;(with_reducible refine HC1.out.mono ?_);rintro e w4 ⟨⟨u,rfl,hu⟩,hb4⟩;obtain rfl:=hu (by first | rfl | trivial);have HB4:=Ht HB1 hb4;have HC4:=Hd (HVa.out w4 (HA.out.below HB4.out));clear hb4 hu)
     | (go_at_call 25;(with_reducible refine HC4.out.mono ?_);rintro e w5 ⟨rfl,hb5⟩;have HB5:=Ht HB4 hb5;clear hb5))
    go_ret3
    exact ⟨by rw [HX.out];rfl,HB5.out⟩
 ·have HX:=Hd (show evalX t L = (0,⟨#[]⟩,startN t L) from by unfold evalX;rw [if_pos hc])
  have t1:(startN t L != 0) = true:=by simpa using hc
  clear hA hOk hc
  generalize startN t L = c at *
  go_enter Tryz.func9,Tryz.ntmps9
  go_wp2_with (go_at_call 23;(with_reducible refine HLk.out.mono ?_);rintro e w1 ⟨rfl,hb1⟩;have HB1:=Hd hb1;clear hb1)
  go_ret3
  exact ⟨by rw [HX.out];rfl,HB1.out⟩
end
end Go.Proofs.YtlcfejgjeljjdaaGreatDoor
