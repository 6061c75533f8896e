/- Structs are looked at one by one: the program. · Sizes, cut at a bound: the reference's reckoning against the · Lists of structs: what is known of them, part by part · The reference's numbers in a code: where digits end; a whole · The reference's first letter of a type; what a pointer point · The reference's reading of a type: its end; letters, pointer · The reference's reading of a type: a struct's name. -/
import Derived.Test.YtbbaooeioogijaaGreatDoorAdd2
import Derived.Test.YtbbaooeioogijaaGreatDoorMg1
import Derived.Test.YtbbaooeioogijaaGreatDoorMg4
import Derived.Deep.DeepCutAuto
namespace Go.Proofs.YtbbaooeioogijaaGreatDoor
open Go.RowKit Go.Maps
def SrRow (B:Nat) (w:World) (b off:Nat) (L:List Sr) (mv:List Value):Prop:=∀ i x v,L[i]? = some x → mv[i]? = some v → w.cell? ⟨b,off + i * 2,none⟩ = some (.string x.name) ∧ w.cell? ⟨b,off + i * 2 + 1,none⟩ = some v ∧ IsMems B w v x.mems
structure IsSrs (B:Nat) (w:World) (a:Option Addr) (L:List Sr) (mv:List Value):Prop where
 len:mv.length = L.length
 at_:L ≠ [] → ∃ b off,a = some ⟨b,off,none⟩ ∧ b < B ∧ SrRow B w b off L mv
 names:∀ x ∈ L,x.name.size ≤ maxLen
theorem SrRow.below {B b off:Nat} {w w':World} {L:List Sr} {mv:List Value} (h:SrRow B w b off L mv) (hb:Below B w w') (hB:b < B):SrRow B w' b off L mv:=fun i x v hi hv=>by
 rw [hb.cell hB,hb.cell hB]
 obtain ⟨h1,h2,h3⟩:=h i x v hi hv
 exact ⟨h1,h2,h3.below hb (Nat.le_refl _)⟩
theorem IsSrs.below {B:Nat} {w w':World} {a:Option Addr} {L:List Sr} {mv:List Value} (h:IsSrs B w a L mv) (hb:Below B w w'):IsSrs B w' a L mv:=
 ⟨h.len,fun hn=>(by obtain ⟨b,off,e,hlt,hr⟩:=h.at_ hn;exact ⟨b,off,e,hlt,hr.below hb hlt⟩),h.names⟩
theorem memsK_ne {K:List Kn}:∀ (l:List (ByteArray × ByteArray)) (seen:List ByteArray) (n a:Nat) {c:Int},memsK K l seen n a = .inl c → c ≠ 0
 | [],_,_,_,_,h=>by rw [memsK] at h;cases h
 | m :: l,seen,n,a,c,h=>by
   rw [memsK] at h
   split at h
   ·obtain rfl:=Sum.inl.inj h;decide
   ·split at h
    ·obtain rfl:=Sum.inl.inj h;decide
    ·split at h
     ·obtain rfl:=Sum.inl.inj h;decide
     ·split at h
      ·obtain rfl:=Sum.inl.inj h;assumption
      ·split at h
       ·obtain rfl:=Sum.inl.inj h;decide
       ·exact memsK_ne l _ _ _ h
theorem addK_ne {K:List Kn} {x:Sr} {c:Int} (h:addK K x = .inl c):c ≠ 0:=by
 unfold addK at h
 split at h
 ·obtain rfl:=Sum.inl.inj h;decide
 ·split at h
  ·obtain rfl:=Sum.inl.inj h;decide
  ·split at h
   ·obtain rfl:=Sum.inl.inj h;decide
   ·split at h
    ·obtain rfl:=Sum.inl.inj h;decide
    ·split at h
     ·obtain rfl:=Sum.inl.inj h
      rename_i h1
      exact memsK_ne _ _ _ _ h1
     ·split at h
      ·obtain rfl:=Sum.inl.inj h;decide
      ·cases h
theorem memsK_al {K:List Kn} (hF:FitK K):∀ (l:List (ByteArray × ByteArray)) (seen:List ByteArray) (n a:Nat) {n' a':Nat},1 ≤ a ∧ a ≤ 4 → memsK K l seen n a = .inr (n',a') → 1 ≤ a' ∧ a' ≤ 4
 | [],_,_,_,_,_,ha,h=>by rw [memsK] at h;obtain ⟨rfl,rfl⟩:=Prod.mk.inj (Sum.inr.inj h);exact ha
 | m :: l,seen,n,a,n',a',ha,h=>by
   rw [memsK] at h
   split at h
   ·cases h
   ·split at h
    ·cases h
    ·split at h
     ·cases h
     ·split at h
      ·cases h
      ·split at h
       ·cases h
       ·rename_i t _ _ _
        have:=meas_al hF t
        exact memsK_al hF l _ _ _ (by omega) h
theorem addK_fit {K:List Kn} (hF:FitK K) (h64:K.length < 64) {x:Sr} {k:Kn} (h:addK K x = .inr k):FitK (K ++ [k]):=by
 refine ⟨by simp;omega,fun k' hk'=>?_⟩
 rcases List.mem_append.1 hk' with h1 | h1
 ·exact hF.2 k' h1
 ·obtain rfl:=List.mem_singleton.1 h1
  refine ⟨(addK_bd h).2.2,?_⟩
  unfold addK at h
  split at h
  ·cases h
  ·split at h
   ·cases h
   ·split at h
    ·cases h
    ·split at h
     ·cases h
     ·split at h
      ·cases h
      ·split at h
       ·cases h
       ·rename_i n a hm _
        obtain rfl:=Sum.inr.inj h
        exact memsK_al hF _ _ _ _ ⟨Nat.le_refl _,by decide⟩ hm
def LearnEnd (mv:List Value) (L:List Sr) (w:World) (e:Ending) (w':World):Prop:=
 Below w.heap.size w w' ∧ ((∃ (i:Nat) (c:Int),learnK L = .inl (i,c) ∧ c ≠ 0 ∧ e = .returned (.tuple #[.pointer none,.agg #[.int .i64 (i:Int),.int .i64 c]])) ∨
  ∃ K b mb lv sv av,learnK L = .inr K ∧ e = .returned (.tuple #[.pointer (some ⟨b,0,none⟩),.agg #[.int .i64 0,.int .i64 0]]) ∧ FitK K ∧ KnAt (w.heap.size + 1) w' b mb lv sv av mv K)
structure LearnInv (w w1:World) (b mb:Nat) (mv:List Value) (L:List Sr) (wy:World) (j:Nat) (K:List Kn):Prop where
 rest:learnF [] L = learnF K (L.drop j)
 len:K.length = j
 fit:FitK K
 below:Below (w.heap.size + 1) w1 wy
 kn:∃ lv sv av,KnAt (w.heap.size + 1) wy b mb lv sv av (mv.take j) K
theorem learn_no {mv:List Value} {L:List Sr} {w w':World} {i:Nat} {c:Int} (h:learnK L = .inl (i,c)) (hc:c ≠ 0) (hb:Below w.heap.size w w') :
 LearnEnd mv L w (.returned (.tuple #[.pointer none,.agg #[.int .i64 (i:Int),.int .i64 c]])) w':=⟨hb,.inl ⟨i,c,h,hc,rfl⟩⟩
theorem learn_yes {mv:List Value} {L:List Sr} {w w':World} {K:List Kn} {b mb:Nat} {lv sv av:Value} (h:learnK L = .inr K) (hF:FitK K) (hk:KnAt (w.heap.size + 1) w' b mb lv sv av mv K) (hb:Below w.heap.size w w') :
 LearnEnd mv L w (.returned (.tuple #[.pointer (some ⟨b,0,none⟩),.agg #[.int .i64 0,.int .i64 0]])) w':=⟨hb,.inr ⟨K,b,mb,lv,sv,av,h,rfl,hF,hk⟩⟩
theorem IsMems.mono {B B':Nat} {w:World} {v:Value} {L:List (ByteArray × ByteArray)} (h:IsMems B w v L) (hB:B ≤ B'):IsMems B' w v L:=by
 obtain ⟨a,cap,rfl,hr⟩:=h
 refine ⟨a,cap,rfl,fun hn=>?_⟩
 obtain ⟨b,off,rfl,hlt,hm⟩:=hr hn
 exact ⟨b,off,rfl,Nat.lt_of_lt_of_le hlt hB,hm⟩
theorem KnAt.low {B b mb:Nat} {w:World} {lv sv av:Value} {mv:List Value} {K:List Kn} (h:KnAt B w b mb lv sv av mv K) (a:Addr) (ha:a.block < B) (v:Value):KnAt B (w.setCell a v) b mb lv sv av mv K:=
 ⟨by rw [Below.heap_setCell _ _ _ _ (by have:=h.base.1;omega)];exact h.blk,h.base,h.names.other _ (by have:=h.base.2.1;omega) _,ownsRow_setCell_below h.sizes ha _,ownsRow_setCell_below h.aligns ha _,ownsRow_setCell_below h.list ha _,h.mems,h.apart⟩
theorem learntW_kn1 (w:World):KnAt (w.heap.size + 1) (learntW w) (w.heap.size + 2) (w.heap.size + 1) (.slice none 0 0) (.slice none 0 0) (.slice none 0 0) [] []:=
 knAt_nil (learntW_kn w).blk ⟨by omega,by omega,by omega⟩ (learntW_kn w).names
theorem learnInv_start {w:World} {mv:List Value} {L:List Sr}:LearnInv w (learntW w) (w.heap.size + 2) (w.heap.size + 1) mv L (learntW w) 0 []:=
 ⟨rfl,rfl,fitK_nil,Below.refl _ _,_,_,_,learntW_kn1 w⟩
theorem LearnInv.next {w w1 w2 w3 wy:World} {b mb j:Nat} {mv:List Value} {L:List Sr} {K:List Kn} {x:Sr} {v:Value} {k:Kn} {lv sv av:Value} (h:LearnInv w w1 b mb mv L wy j K) (hj:K.length < 64) (h1:w.heap.size + 1 ≤ wy.heap.size) (h2:Below wy.heap.size wy w2) (h3:Below (w.heap.size + 1) w2 w3)
 (hx:L.drop j = x :: L.drop (j + 1)) (hv:mv.take (j + 1) = mv.take j ++ [v]) (hk:addK K x = .inr k) (hkn:KnAt (w.heap.size + 1) w3 b mb lv sv av (mv.take j ++ [v]) (K ++ [k])):LearnInv w w1 b mb mv L w3 (j + 1) (K ++ [k]):=by
 refine ⟨?_,by simp [h.len],addK_fit h.fit hj hk,h.below.trans ((h2.mono h1).trans h3),lv,sv,av,by rw [hv];exact hkn⟩
 rw [h.rest,hx,learnF,hk]
theorem LearnInv.bad {w w1 wy:World} {b mb j:Nat} {mv:List Value} {L:List Sr} {K:List Kn} {x:Sr} {c:Int} (h:LearnInv w w1 b mb mv L wy j K) (hx:L.drop j = x :: L.drop (j + 1)) (hk:addK K x = .inl c):learnF [] L = .inl (j,c):=by
 rw [h.rest,hx,learnF,hk,h.len]
theorem LearnInv.done {w w1 wy:World} {b mb:Nat} {mv:List Value} {L:List Sr} {K:List Kn} (h:LearnInv w w1 b mb mv L wy L.length K):learnF [] L = .inr K:=by
 rw [h.rest,List.drop_length,learnF]
set_option maxRecDepth 100000 in
set_option maxHeartbeats 4000000 in
theorem learn_ok (a:Option Addr) (cap:Nat) (L:List Sr) (mv:List Value) (w:World) (hE:TE w) (hS:IsSrs w.heap.size w a L mv) :
 Calls Tryz.prog 79 #[.slice a L.length cap] w fun e w'=>LearnEnd mv L w e w':=by
 have HE:=Hd hE
 have HS:=Hd hS
 have hmm:=@run_makeMap Tryz.prog
 clear hE hS
 by_cases h64:64 < L.length
 ·have hfin:=Hd (show learnK L = .inl (0,3) by unfold learnK;rw [if_pos h64])
  have t1:(64:Int) < L.length:=by omega
  clear h64
  go_enter Tryz.func79,Tryz.ntmps79
  go_wp2_with fail
  exact bodyPost_ret (v:=.tuple #[.pointer none,.agg #[.int .i64 ((0:Nat):Int),.int .i64 3]]) (by simp [results,Tryz.results79,go_sem]) rfl (learn_no hfin.out (by decide) ((Below.refl _ _).alloc (Nat.le_refl _) _))
 have t1:(L.length:Int) ≤ 64:=by omega
 have hL:=Hd (show learnK L = learnF [] L by unfold learnK;rw [if_neg h64])
 have hat:=learntW_at w
 obtain ⟨⟨d0,d1⟩,fd⟩:=two_block hat
 have hkn:=learntW_kn w
 go_enter Tryz.func79,Tryz.ntmps79
 go_wp2_with fail
 rw [learntW_eq]
 have hi0:=learnInv_start (w:=w) (mv:=mv) (L:=L)
 have hw1:=learntW_below w
 have hsz:=learntW_size w
 generalize learntW w = w1 at *
 have HI0:=Hd hi0
 have HW1:=Hd hw1
 have HAt:=Hd hat
 have HSz:=Hd hsz
 clear hkn hi0 hw1 fd hat hsz d0 d1
 go_loopg [17] L.length (fun g v17 wy=>∃ (j:Nat) (K:List Kn),j ≤ L.length ∧ j + g = L.length ∧ v17 = .int .i64 (j:Int) ∧ Hid (LearnInv w w1 (w.heap.size + 2) (w.heap.size + 1) mv L wy j K))
 case atStart=>exact ⟨0,[],by omega,by omega,rfl,HI0.out⟩
 case round=>
  obtain ⟨j,K,hj,hjg,rfl,HI⟩:=hrel
  have hbr:Below w.heap.size w wr:=HW1.out.trans (HI.out.below.mono (by omega))
  have hzr:w.heap.size + 1 ≤ wr.heap.size:=by have:=HI.out.below.size;have:=HSz.out;omega
  have hat:wr.heap[w.heap.size]? = some (.cells #[.int .i64 0,.int .i64 0] 32 (0,0)):=(HI.out.below.block _ (by omega)).trans HAt.out
  by_cases hlt:j < L.length
  ·obtain ⟨bb,off,ha,hbl,hrow⟩:=HS.out.at_ (fun e=>by rw [e] at hlt;simp at hlt)
   have hlm:j < mv.length:=by rw [HS.out.len];exact hlt
   obtain ⟨e1,e2,hms⟩:=hrow j _ _ (List.getElem?_eq_getElem hlt) (List.getElem?_eq_getElem hlm)
   rw [← hbr.cell hbl] at e1 e2
   have hx:=drop_at L j hlt
   have hv:=take_at mv j hlm
   have hnx:=HS.out.names _ (List.getElem_mem hlt)
   generalize L[j]'hlt = x at *
   generalize mv[j]'hlm = v at *
   have HX:=Hd hx
   have HV:=Hd hv
   have HMs:=Hd (hms.below hbr (Nat.le_refl _))
   have HMl:=Hd HS.out.len
   obtain ⟨am,cm,rfl,_⟩:=hms
   have HAt':=Hd hat
   have HNx:=Hd hnx
   have HBr:=Hd hbr
   clear hx hv hrow hlm hat hnx hbr
   subst ha
   go_upto_region 7 with fail
   have hm2:(wr.alloc (.cells #[.string x.name,.slice am x.mems.length cm] 61)).heap[wr.heap.size]? = some (.cells #[.string x.name,.slice am x.mems.length cm] 61 (0,0)):=heap_alloc_new _ _
   have hb2:Below wr.heap.size wr (wr.alloc (.cells #[.string x.name,.slice am x.mems.length cm] 61)):=(Below.refl _ _).alloc (Nat.le_refl _) _
   generalize wr.alloc (.cells #[.string x.name,.slice am x.mems.length cm] 61) = w2 at *
   obtain ⟨⟨m0,m1⟩,_⟩:=two_block hm2
   have HB2:=Hd hb2
   have hbw2:=HBr.out.trans (hb2.mono HBr.out.size)
   have hk64:K.length < 64:=by have:=HI.out.len;omega
   obtain ⟨lv,sv,av,hkn⟩:=HI.out.kn
   have HA:=Hd (add_ok x (.slice am x.mems.length cm) w2 (HE.out.below hbw2) (hkn.below hb2) HI.out.fit hk64 HNx.out ((HMs.out.below hb2 HBr.out.size).mono hbw2.size))
   have h30:=(hb2.block _ (by omega)).trans HAt'.out
   have HAt2:=Hd h30
   have hz2:=lt_of_heap h30
   clear hkn hbw2 hb2 hm2 h30 e1 e2
   go_wp2_with (go_at_call 107;(with_reducible refine HA.out.mono ?_))
   intro e w3 hend
   obtain ⟨hb3,⟨c,hc,rfl⟩ | ⟨k,lv',sv',av',hk,rfl,hkn⟩⟩:=hend
   ·have hfin:=Hd (hL.out.trans (HI.out.bad HX.out hc))
    have hcn:=addK_ne hc
    have t3:(c != 0) = true:=by simp [hcn]
    have h31:=(hb3.block _ (by omega)).trans HAt2.out
    have hz3:=lt_of_heap h31
    obtain ⟨⟨d0,d1⟩,fd⟩:=two_block h31
    have fd0:=fd 0
    have fd1:=fd 1
    have HB3:=Hd (HBr.out.trans ((HB2.out.mono HBr.out.size).trans (hb3.mono (Nat.le_succ _))))
    have HCn:=Hd hcn
    clear fd hb3 hc hcn h31
    go_wp2_with fail
    exact bodyPost_ret (v:=.tuple #[.pointer none,.agg #[.int .i64 (j:Int),.int .i64 c]]) (by simp [results,Tryz.results79,go_sem,d0,d1]) rfl (learn_no hfin.out HCn.out (set_fault HB3.out _ _))
   ·have HN:=Hd (HI.out.next hk64 hzr HB2.out hb3 HX.out HV.out hk hkn)
    clear hb3 hk hkn
    go_wp2_with fail
    go_roundg (L.length - (j + 1))
    case measure=>omega
    case rel=>exact ⟨j + 1,K ++ [k],by omega,by omega,by rw [Int.natCast_add];rfl,HN.out⟩
  ·obtain rfl:j = L.length:=by omega
   have t3:(L.length:Int) ≤ (L.length:Int):=Int.le_refl _
   have hfin:=Hd (hL.out.trans HI.out.done)
   obtain ⟨lv,sv,av,hkn⟩:=HI.out.kn
   have htk:mv.take L.length = mv:=List.take_of_length_le (by rw [HS.out.len];exact Nat.le_refl _)
   rw [htk] at hkn
   have HKn:=Hd hkn
   have HFt:=Hd HI.out.fit
   have HBr:=Hd hbr
   have hz3:=lt_of_heap hat
   obtain ⟨⟨d0,d1⟩,fd⟩:=two_block hat
   have fd0:=fd 0
   have fd1:=fd 1
   clear fd hbr hkn hat
   go_wp2_with fail
   exact bodyPost_ret (v:=.tuple #[.pointer (some ⟨w.heap.size + 2,0,none⟩),.agg #[.int .i64 0,.int .i64 0]]) (by simp [results,Tryz.results79,go_sem,d0,d1]) rfl (learn_yes hfin.out HFt.out ((HKn.out.low _ (Nat.lt_succ_self _) _).low _ (Nat.lt_succ_self _) _) (set_fault HBr.out _ _))
end Go.Proofs.YtbbaooeioogijaaGreatDoor
namespace Go.Proofs.YtbbaooeioogijaaGreatDoor
theorem fit_ge (x a:Nat) (h:0 < a):x ≤ fitN x a:=by
 unfold fitN
 have h1:=Nat.div_add_mod (x + a - 1) a
 have h2:=Nat.mod_lt (x + a - 1) h
 rw [Nat.mul_comm] at h1
 omega
theorem fit_mono {x y a:Nat} (h:x ≤ y):fitN x a ≤ fitN y a:=by
 unfold fitN
 exact Nat.mul_le_mul_right a (Nat.div_le_div_right (by omega))
theorem cut_fit {c x b a M:Nat} (h:c = min x M) (ha:0 < a):min (fitN c a + min b M) M = min (fitN x a + b) M:=by
 subst h
 rcases Nat.le_total x M with hx | hx
 ·rw [Nat.min_eq_left hx]
  omega
 ·rw [Nat.min_eq_right hx]
  have h1:=fit_ge M a ha
  have h2:=fit_mono (a:=a) hx
  omega
theorem cut_fit0 {c x a M:Nat} (h:c = min x M) (ha:0 < a):min (fitN c a) M = min (fitN x a) M:=by
 have:=cut_fit (b:=0) h ha
 simpa using this
theorem cut_mul {n b M:Nat} (_h:0 < M):min (n * min b M) M = min (n * b) M:=by
 rcases Nat.le_total b M with hx | hx
 ·rw [Nat.min_eq_left hx]
 ·rw [Nat.min_eq_right hx]
  rcases Nat.eq_zero_or_pos n with rfl | hn
  ·simp
  ·have h1:M ≤ n * M:=Nat.le_mul_of_pos_left M hn
   have h2:n * M ≤ n * b:=Nat.mul_le_mul_left n hx
   omega
end Go.Proofs.YtbbaooeioogijaaGreatDoor
namespace Go.Proofs.YtbbaooeioogijaaGreatDoor
open Go.RowKit
def findS (L:List Sr) (s:List UInt8):Option Nat:=L.findIdx? fun k=>decide (k.name.data.toList = s)
def placeS (L:List Sr) (s:List UInt8):Int:=match findS L s with
 | some i=>(i:Nat)
 | none=>-1
theorem findS_map (K:List Kn) (s:List UInt8):findS (K.map Kn.toSr) s = findK K s:=by
 unfold findS findK
 rw [List.findIdx?_map];rfl
theorem placeS_map (K:List Kn) (s:List UInt8):placeS (K.map Kn.toSr) s = placeK K s:=by
 unfold placeS placeK
 rw [findS_map]
 cases findK K s <;> rfl
theorem findK_take {K:List Kn} {m i:Nat} {s:List UInt8} (h:findK (K.take m) s = some i):findK K s = some i ∧ i < m:=by
 unfold findK at *
 rw [List.findIdx?_eq_some_iff_getElem] at *
 obtain ⟨h1,h2,h3⟩:=h
 rw [List.length_take] at h1
 refine ⟨⟨by omega,by rw [List.getElem_take] at h2;exact h2,fun j hj=>?_⟩,by omega⟩
 have:=h3 j hj
 rw [List.getElem_take] at this
 exact this
theorem meas_take {K:List Kn} {m:Nat}:∀ {t:Ty},thereT (K.take m) t = true → measT (K.take m) t = measT K t
 | .arr n t,h=>by rw [thereT] at h;rw [measT,measT,meas_take h]
 | .str s,h=>by
   rw [thereT,Option.isSome_iff_exists] at h
   obtain ⟨i,hi⟩:=h
   obtain ⟨h1,h2⟩:=findK_take hi
   rw [measT,measT,hi,h1]
   simp only [Option.bind_some]
   rw [List.getElem?_take_of_lt h2]
 | .base _,_=>by simp [measT]
 | .ptr _,_=>by simp [measT]
 | .fn _ _,_=>by simp [measT]
def memR (K:List Kn):List (ByteArray × ByteArray) → Nat → Nat → Nat × Nat
 | [],n,a=>(n,a)
 | m :: l,n,a=>match tyS m.2 with
   | none=>(n,a)
   | some t=>memR K l (fitN n (measT K t).2 + (measT K t).1) (max a (measT K t).2)
def MemOk (K:List Kn) (m:ByteArray × ByteArray):Prop:=∃ t,tyS m.2 = some t ∧ checkT K t = 0 ∧ objectT t = true
theorem mems_right {K:List Kn}:∀ {l:List (ByteArray × ByteArray)} {seen:List ByteArray} {n a n' a':Nat},memsK K l seen n a = .inr (n',a') → memR K l n a = (n',a') ∧ ∀ m ∈ l,MemOk K m
 | [],_,_,_,_,_,h=>by rw [memsK] at h;exact ⟨Sum.inr.inj h,fun m hm=>by cases hm⟩
 | m :: l,seen,n,a,n',a',h=>by
   rw [memsK] at h
   split at h
   ·cases h
   ·split at h
    ·cases h
    ·split at h
     ·cases h
     ·rename_i t ht
      split at h
      ·cases h
      ·rename_i hc
       split at h
       ·cases h
       ·rename_i ho
        obtain ⟨h1,h2⟩:=mems_right h
        refine ⟨by rw [memR,ht];exact h1,fun m' hm'=>?_⟩
        rcases List.mem_cons.1 hm' with rfl | hm'
        ·exact ⟨t,ht,by simpa using hc,by simpa using ho⟩
        ·exact h2 m' hm'
theorem check_there {K:List Kn} {t:Ty} (h:checkT K t = 0):thereT K t = true ∧ shapeT t = true ∧ sizedT K t = true:=by
 unfold checkT at h
 split at h
 ·cases h
 ·split at h
  ·cases h
  ·rename_i h1
   split at h
   ·cases h
   ·rename_i h2
    split at h
    ·cases h
    ·rename_i h3
     exact ⟨by simpa using h2,by simpa using h1,by simpa using h3⟩
structure GoodK (K:List Kn):Prop where
 mems:∀ i (h:i < K.length),(∀ m ∈ K[i].mems,MemOk (K.take i) m) ∧ ∃ n,memR (K.take i) K[i].mems 0 1 = (n,K[i].align) ∧ K[i].size = fitN n K[i].align
 al:∀ k ∈ K,1 ≤ k.align ∧ k.align ≤ 4
 len:K.length ≤ 65
 mlen:∀ k ∈ K,k.mems.length ≤ 64
theorem goodK_nil:GoodK []:=⟨(fun i h=>absurd h (Nat.not_lt_zero _)),(fun k h=>by cases h),by decide,(fun k h=>by cases h)⟩
theorem meas_align {K:List Kn} (h:∀ k ∈ K,1 ≤ k.align ∧ k.align ≤ 4):∀ t:Ty,1 ≤ (measT K t).2 ∧ (measT K t).2 ≤ 4
 | .base c=>by rw [measT];repeat' split
               all_goals decide
 | .ptr _=>by rw [measT];decide
 | .fn _ _=>by rw [measT];decide
 | .arr n t=>by rw [measT];exact meas_align h t
 | .str s=>by
   rw [measT]
   split
   ·rename_i k hk
    obtain ⟨i,_,hi⟩:=Option.bind_eq_some_iff.1 hk
    exact h k (List.mem_of_getElem? hi)
   ·decide
theorem memR_align {K:List Kn} (h:∀ k ∈ K,1 ≤ k.align ∧ k.align ≤ 4):∀ (l:List (ByteArray × ByteArray)) (n a:Nat),1 ≤ a ∧ a ≤ 4 → 1 ≤ (memR K l n a).2 ∧ (memR K l n a).2 ≤ 4
 | [],_,_,ha=>by rw [memR];exact ha
 | m :: l,n,a,ha=>by
   rw [memR]
   split
   ·exact ha
   ·rename_i t _
    have:=meas_align h t
    exact memR_align h l _ _ (by omega)
theorem goodK_snoc {K:List Kn} (hG:GoodK K) (hl:K.length ≤ 64) {x:Sr} (hm64:x.mems.length ≤ 64) {n a:Nat} (h:memsK K x.mems [] 0 1 = .inr (n,a)):GoodK (K ++ [({ x with size:=fitN n a,align:=a }:Kn)]):=by
 obtain ⟨h1,h2⟩:=mems_right h
 refine ⟨fun i hi=>?_,fun k hk=>?_,by simp;omega,fun k hk=>?_⟩
 ·rcases Nat.lt_or_ge i K.length with hlt | hge
  ·have e:(K ++ [({ x with size:=fitN n a,align:=a }:Kn)]).take i = K.take i:=by rw [List.take_append_of_le_length (by omega)]
   rw [e,List.getElem_append_left hlt]
   exact hG.mems i hlt
  ·obtain rfl:i = K.length:=by simp at hi;omega
   have e:(K ++ [({ x with size:=fitN n a,align:=a }:Kn)]).take K.length = K:=by simp
   rw [e,List.getElem_append_right (Nat.le_refl _)]
   simp only [Nat.sub_self,List.getElem_cons_zero]
   exact ⟨h2,n,h1,rfl⟩
 ·rcases List.mem_append.1 hk with hk | hk
  ·exact hG.al k hk
  ·obtain rfl:=List.mem_singleton.1 hk
   have:=memR_align hG.al x.mems 0 1 ⟨Nat.le_refl _,by decide⟩
   rw [h1] at this
   exact this
 ·rcases List.mem_append.1 hk with hk | hk
  ·exact hG.mlen k hk
  ·obtain rfl:=List.mem_singleton.1 hk
   exact hm64
theorem addK_right {K:List Kn} {x:Sr} {k:Kn} (h:addK K x = .inr k):isNameB x.name = true ∧ (findK K x.name.data.toList).isSome = false ∧ x.mems.length ≤ 64 ∧ x.mems ≠ [] ∧ ∃ n a,memsK K x.mems [] 0 1 = .inr (n,a) ∧ k = { x with size:=fitN n a,align:=a } ∧ fitN n a ≤ 65536:=by
 unfold addK at h
 split at h
 ·cases h
 ·rename_i h1
  split at h
  ·cases h
  ·rename_i h2
   split at h
   ·cases h
   ·rename_i h3
    split at h
    ·cases h
    ·rename_i h4
     split at h
     ·cases h
     ·rename_i n a hm
      split at h
      ·cases h
      ·rename_i h5
       exact ⟨by simpa using h1,by simpa using h2,by omega,h4,n,a,hm,(Sum.inr.inj h).symm,by omega⟩
structure KnowsK (K:List Kn) (L:List Sr):Prop where
 good:GoodK K
 fit:FitK K
 list:K.map Kn.toSr = L
theorem knows_nil:KnowsK [] []:=⟨goodK_nil,fitK_nil,rfl⟩
theorem knows_snoc {K:List Kn} {L:List Sr} {x:Sr} {k:Kn} (h:KnowsK K L) (hl:K.length < 64) (hk:addK K x = .inr k):KnowsK (K ++ [k]) (L ++ [x]):=by
 obtain ⟨_,_,h3,_,n,a,hm,rfl,_⟩:=addK_right hk
 exact ⟨goodK_snoc h.good (by omega) h3 hm,addK_fit h.fit hl hk,by rw [List.map_append,h.list];rfl⟩
theorem learnF_knows:∀ {l L:List Sr} {K K':List Kn},KnowsK K L → L.length + l.length ≤ 64 → learnF K l = .inr K' → KnowsK K' (L ++ l)
 | [],L,K,K',h,_,hl=>by
   rw [learnF] at hl
   obtain rfl:=Sum.inr.inj hl
   rw [List.append_nil];exact h
 | x :: l,L,K,K',h,hn,hl=>by
   rw [learnF] at hl
   have hkl:K.length = L.length:=by rw [← h.list,List.length_map]
   simp only [List.length_cons] at hn
   split at hl
   ·cases hl
   ·rename_i k hk
    have:=learnF_knows (knows_snoc h (by omega) hk) (by simp;omega) hl
    rwa [List.append_assoc] at this
theorem learnK_knows {L:List Sr} {K:List Kn} (h:learnK L = .inr K):KnowsK K L:=by
 unfold learnK at h
 split at h
 ·cases h
 ·have:=learnF_knows knows_nil (by simp;omega) h
  exact this
def cutN (n:Nat):Nat:=min n 65537
theorem memR_cut {n m b a:Nat} (h:m = cutN n) (ha:0 < a):cutN (fitN m a + cutN b) = cutN (fitN n a + b):=cut_fit h ha
theorem memR_snoc {K:List Kn}:∀ {l:List (ByteArray × ByteArray)} {m:ByteArray × ByteArray} {t:Ty} {n a:Nat},(∀ m ∈ l,MemOk K m) → tyS m.2 = some t → memR K (l ++ [m]) n a = (fitN (memR K l n a).1 (measT K t).2 + (measT K t).1,max (memR K l n a).2 (measT K t).2)
 | [],m,t,n,a,_,ht=>by simp [memR,ht]
 | m' :: l,m,t,n,a,hok,ht=>by
   obtain ⟨t',ht',_⟩:=hok m' (by simp)
   rw [List.cons_append,memR,memR,ht']
   simp only
   exact memR_snoc (fun m hm=>hok m (by simp [hm])) ht
end Go.Proofs.YtbbaooeioogijaaGreatDoor
namespace Go.Proofs.YtbbaooeioogijaaGreatDoor
open Go.RowKit
def runN (l:List UInt8):Nat:=(l.takeWhile digB).length
theorem runN_yes {c:UInt8} {l:List UInt8} (h:digB c = true):runN (c :: l) = runN l + 1:=by simp [runN,h]
theorem runN_no {c:UInt8} {l:List UInt8} (h:digB c = false):runN (c :: l) = 0:=by simp [runN,h]
theorem runN_nil:runN [] = 0:=rfl
theorem ret_num {a b:Int} (h:a = b):Ending.returned (.int .i64 a) = .returned (.int .i64 b):=by rw [h]
set_option maxHeartbeats 2000000 in
theorem refDigits_ok (s:ByteArray) (k:Nat) (hk:k ≤ s.size) (hs:s.size ≤ 1048576) (w:World):Calls Tryz.prog 140 #[.string s,.int .i64 (k:Int)] w fun e w'=>e = .returned (.int .i64 ((k + runN (sfx s k):Nat):Int)) ∧ w' = w:=by
 have hs':(s.size:Int) ≤ 1048576:=by omega
 go_enter Tryz.func140,Tryz.ntmps140
 go_wp2_with fail
 go_loopg [1] (s.size - k) (fun g v wy=>∃ j:Nat,j ≤ s.size ∧ j + g = s.size ∧ v = .int .i64 (j:Int) ∧ Hid (k + runN (sfx s k) = j + runN (sfx s j)) ∧ w = wy)
 case atStart=>exact ⟨k,hk,by omega,rfl,rfl,rfl⟩
 case round=>
  obtain ⟨j,hj,hjg,rfl,hr,rfl⟩:=hrel
  by_cases hlt:j < s.size
  ·by_cases hd:digB s[j] = true
   ·have HN:=Hd (show k + runN (sfx s k) = (j + 1) + runN (sfx s (j + 1)) by
     rw [hr.out,sfx_cons s j hlt,runN_yes hd];omega)
    have h2:=of_decide_eq_true hd
    have t1:(48:Int) ≤ s[j].toNat:=by omega
    have t2:(s[j].toNat:Int) ≤ 57:=by omega
    clear hd h2
    go_wp2_with fail
    go_roundg (s.size - (j + 1))
    case measure=>omega
    case rel=>exact ⟨j + 1,by omega,by omega,by rw [Int.natCast_add];rfl,HN.out,rfl⟩
   ·have hd':digB s[j] = false:=by simpa using hd
    have hfin:=Hd (show k + runN (sfx s k) = j by rw [hr.out,sfx_cons s j hlt,runN_no hd'];omega)
    have h2:¬ (48 ≤ s[j].toNat ∧ s[j].toNat ≤ 57):=of_decide_eq_false hd'
    have h3:(s[j].toNat:Int) < 48 ∨ ((48:Int) ≤ s[j].toNat ∧ (57:Int) < s[j].toNat):=by omega
    clear hd hd' h2
    rcases h3 with t1 | ⟨t1,t2⟩
    all_goals
     go_wp2_with fail
     go_ret
     exact ⟨ret_num (by have:=hfin.out;omega),rfl⟩
  ·have hfin:=Hd (show k + runN (sfx s k) = j by rw [hr.out,sfx_nil s j (by omega),runN_nil];omega)
   have t3:(s.size:Int) ≤ (j:Int):=by omega
   go_wp2_with fail
   go_ret
   exact ⟨ret_num (by have:=hfin.out;omega),rfl⟩
set_option maxHeartbeats 4000000 in
set_option maxRecDepth 100000 in
theorem refWhole_ok (s:ByteArray) (w:World):Calls Tryz.prog 141 #[.string s,.int .i64 1099511627776] w (Numbered (numT s.data.toList) w):=by
 have hl:s.data.toList.length = s.size:=by rw [Array.length_toList];rfl
 have Hl:=Hd hl
 clear hl
 by_cases h0:s.size = 0
 ·have hfin:=Hd (show numT s.data.toList = none by unfold numT;rw [if_pos (.inl (List.eq_nil_of_length_eq_zero (by rw [Hl.out];exact h0)))])
  have t1:((s.size:Int) == 0) = true:=by rw [beq_iff_eq];omega
  go_enter Tryz.func141,Tryz.ntmps141
  go_wp2_with fail
  go_ret2
  exact numbered_no hfin.out (Below.refl _ _)
 ·have t1:((s.size:Int) == 0) = false:=by rw [beq_eq_false_iff_ne];omega
  by_cases h15:15 < s.size
  ·have hfin:=Hd (numT_long (l:=s.data.toList) (by rw [Hl.out];exact h15))
   have t2:(15:Int) < s.size:=by omega
   go_enter Tryz.func141,Tryz.ntmps141
   go_wp2_with fail
   go_ret2
   exact numbered_no hfin.out (Below.refl _ _)
  ·have t2:(s.size:Int) ≤ 15:=by omega
   by_cases hz:1 < s.size ∧ s.data.toList.head? = some 48
   ·have hfin:=Hd (numT_zero (l:=s.data.toList) (by rw [Hl.out];exact hz.1) hz.2)
    have h1:0 < s.size:=by omega
    have t3:(1:Int) < s.size:=by omega
    have t4:((s[0].toNat:Int) == 48) = true:=by
     have:=hz.2
     rw [head_at s h1] at this
     simp [Option.some.inj this]
    clear hz
    go_enter Tryz.func141,Tryz.ntmps141
    go_wp2_with fail
    go_ret2
    exact numbered_no hfin.out (Below.refl _ _)
   ·have h1:0 < s.size:=by omega
    have HZ:=Hd (show 1 < s.data.toList.length → s.data.toList.head? ≠ some 48 from fun a b=>hz ⟨by rw [Hl.out] at a;exact a,b⟩)
    have hz':((s.size:Int) ≤ 1) ∨ ((1:Int) < s.size ∧ ((s[0].toNat:Int) == 48) = false):=by
     by_cases h:1 < s.size
     ·refine .inr ⟨by omega,?_⟩
      have h3:s.data.toList.head? ≠ some 48:=fun e=>hz ⟨h,e⟩
      rw [head_at s h1] at h3
      rw [beq_eq_false_iff_ne]
      intro e
      have e':s[0].toNat = 48:=by omega
      exact h3 (by rw [Option.some.injEq];exact UInt8.toNat_inj.1 e')
     ·exact .inl (by omega)
    clear hz
    go_enter Tryz.func141,Tryz.ntmps141
    go_upto_region 1 with fail
    go_cut [25] (fun v wx=>v = .bool false ∧ w = wx)
    case first=>
     rcases hz' with h | ⟨h,h'⟩
     all_goals
      go_wp2_with fail
      go_meet
      exact ⟨by congr 1;simp_all;try omega,rfl⟩
    case rest=>
     obtain ⟨rfl,rfl⟩:=hcut
     clear hz'
     go_wp2_with fail
     go_loopg [6,7] s.size (fun g nv i wy=>∃ k:Nat,k ≤ s.size ∧ k + g = s.size ∧ i = .int .i64 (k:Int) ∧ nv = .int .i64 (valT (s.data.toList.take k):Nat) ∧ Hid ((s.data.toList.take k).all digB = true) ∧ w = wy)
     case atStart=>exact ⟨0,Nat.zero_le _,by omega,rfl,rfl,rfl,rfl⟩
     case round=>
      obtain ⟨k,hk,hkg,rfl,rfl,hd,rfl⟩:=hrel
      have hv:valT (s.data.toList.take k) < 10 ^ 15:=Nat.lt_of_lt_of_le (valT_bd _ _ rfl hd.out) (Nat.pow_le_pow_right (by decide) (by rw [List.length_take];omega))
      have hv':(valT (s.data.toList.take k):Int) < 1000000000000000:=by omega
      clear hv
      by_cases hlt:k < s.size
      ·have HT:=Hd (take_snoc s k hlt)
       rcases hdk:digB s[k] with _ | _
       ·have hfin:=Hd (show numT s.data.toList = none from numT_bad (by
         rw [Bool.eq_false_iff];intro e
         have:=List.all_eq_true.1 e _ (List.getElem_mem (l:=s.data.toList) (n:=k) (by rw [Hl.out];exact hlt))
         rw [show s.data.toList[k]'(by rw [Hl.out];exact hlt) = s[k] from rfl,hdk] at this;cases this))
        have hw:(s[k].toNat:Int) < 48 ∨ (48 ≤ (s[k].toNat:Int) ∧ 57 < (s[k].toNat:Int)):=by
         unfold digB at hdk
         rw [decide_eq_false_iff_not] at hdk
         omega
        clear hdk
        rcases hw with h | ⟨h,h'⟩
        all_goals
         go_wp2_with fail
         go_ret2
         exact numbered_no hfin.out (Below.refl _ _)
       ·have h1:48 ≤ (s[k].toNat:Int) ∧ (s[k].toNat:Int) ≤ 57:=by
         unfold digB at hdk
         rw [decide_eq_true_iff] at hdk
         omega
        obtain ⟨h1,h2⟩:=h1
        have hd':=Hd (show (s.data.toList.take (k + 1)).all digB = true by rw [HT.out,List.all_append,hd.out];simp [hdk])
        have hv2:=Hd (show valT (s.data.toList.take (k + 1)) = 10 * valT (s.data.toList.take k) + (s[k].toNat - 48) by rw [HT.out,valT_snoc])
        clear hdk
        have hx0:(0:Int) ≤ (valT (s.data.toList.take k):Int):=by omega
        have HV:=Hd (show (valT (s.data.toList.take (k + 1)):Int) = 10 * (valT (s.data.toList.take k):Int) + (s[k].toNat:Int) - 48 by have:=hv2.out;omega)
        clear hv2
        generalize (valT (s.data.toList.take k):Int) = x at hv' hx0 HV ⊢
        go_wp2_with fail
        go_roundg (s.size - (k + 1))
        case measure=>omega
        case rel=>exact ⟨k + 1,by omega,by omega,by rw [Int.natCast_add];rfl,by rw [HV.out],hd',rfl⟩
      ·obtain rfl:k = s.size:=by omega
       rw [← Hl.out,List.take_length] at hd hv'
       have e1:=Hd (show s.data.toList.take s.size = s.data.toList by rw [← Hl.out,List.take_length])
       have hfin:=Hd (numT_end (l:=s.data.toList) (by intro e;rw [e] at Hl;exact h0 Hl.out.symm) (by rw [Hl.out];omega) HZ.out hd.out)
       rw [e1.out]
       obtain ⟨n,en⟩:∃ n,n = valT s.data.toList:=⟨_,rfl⟩
       rw [← en] at hfin hv' ⊢
       clear hd en
       have t3:(s.size:Int) ≤ (s.size:Int):=Int.le_refl _
       go_wp2_with fail
       go_ret2
       exact numbered_end hfin.out (Below.refl _ _)
end Go.Proofs.YtbbaooeioogijaaGreatDoor
namespace Go.Proofs.YtbbaooeioogijaaGreatDoor
open Go.RowKit
theorem refKind_ok (t:Ty) (w:World):Calls Tryz.prog 93 #[.string (tyB t)] w fun e w'=>e = .returned (.int .u8 ((headT t).toNat:Int)) ∧ w' = w:=by
 obtain ⟨h0,hc⟩:=tyB_head t
 have HC:=Hd hc
 generalize tyB t = s at *
 clear hc
 go_enter Tryz.func93,Tryz.ntmps93
 go_wp2_with fail
 go_ret
 exact ⟨by rw [← HC.out];rfl,rfl⟩
theorem runN_app {l r:List UInt8} (h:l.all digB = true) (hr:∀ c,r.head? = some c → digB c = false):runN (l ++ r) = l.length:=by
 unfold runN
 induction l with
 | nil=>
   cases r with
   | nil=>rfl
   | cons c r=>simp [hr c rfl]
 | cons c l ih=>
   rw [List.all_cons,Bool.and_eq_true] at h
   simp [h.1,ih h.2]
set_option maxHeartbeats 2000000 in
theorem refInner_ptr (u:Ty) (w:World):Calls Tryz.prog 118 #[.string (tyB (.ptr u))] w fun e w'=>e = .returned (.tuple #[.string (tyB u),.int .i64 0]) ∧ Below w.heap.size w w':=by
 have HK:=Hd (refKind_ok (.ptr u) w)
 have HX:=Hd (tyB_ext (t:=.ptr u) (u:=u) (k:=1) rfl)
 have h0:=(tyB_head (.ptr u)).1
 have hk:headT (.ptr u) = 112:=rfl
 rw [hk] at HK
 generalize tyB (.ptr u) = s at *
 have h1:(1:Int) ≤ s.size:=by omega
 clear hk
 go_enter Tryz.func118,Tryz.ntmps118
 go_wp2_with (go_at_call 93;(with_reducible refine HK.out.mono ?_);rintro e w1 ⟨rfl,hw1⟩;subst w1)
 rw [HX.out]
 go_ret2
 exact ⟨rfl,Below.refl _ _⟩
set_option maxHeartbeats 2000000 in
theorem refInner_arr (n:Nat) (u:Ty) (hr:Right (.arr n u)) (hl:(code (.arr n u)).length ≤ 65536) (w:World):Calls Tryz.prog 118 #[.string (tyB (.arr n u))] w fun e w'=>e = .returned (.tuple #[.string (tyB u),.int .i64 (n:Int)]) ∧ Below w.heap.size w w':=by
 have HK:=Hd (refKind_ok (.arr n u) w)
 have hk:headT (.arr n u) = 97:=rfl
 rw [hk] at HK
 have hs:sfx (tyB (.arr n u)) 1 = Lib.decDigits n ++ 58 :: code u:=by rw [sfx,tyB_list,code];rfl
 have hrun:runN (sfx (tyB (.arr n u)) 1) = (Lib.decDigits n).length:=by
  rw [hs]
  exact runN_app (dec_digits n).1 (fun c hc=>by obtain rfl:=Option.some.inj hc;rfl)
 have hsz:(tyB (.arr n u)).size = 1 + (Lib.decDigits n).length + 1 + (code u).length:=by rw [tyB_size,code];simp;omega
 have HD:=Hd (refDigits_ok (tyB (.arr n u)) 1 (by omega) (by rw [tyB_size];omega))
 rw [hrun] at HD
 have HE1:=Hd (show ((tyB (.arr n u)).extract 1 (1 + (Lib.decDigits n).length)).data.toList = Lib.decDigits n by rw [extract_take,hs,List.take_left])
 have HE2:=Hd (tyB_ext (t:=.arr n u) (u:=u) (k:=1 + (Lib.decDigits n).length + 1) (by
  rw [code,Nat.add_comm 1,List.drop_succ_cons]
  rw [show (Lib.decDigits n).length + 1 = (Lib.decDigits n ++ [58]).length by simp]
  rw [show Lib.decDigits n ++ 58 :: code u = (Lib.decDigits n ++ [58]) ++ code u by simp,List.drop_left]))
 have HN:=Hd (numT_mk hr.1)
 have hl':(tyB (.arr n u)).size ≤ 65536:=by rw [tyB_size];exact hl
 generalize tyB (.arr n u) = s at *
 generalize (Lib.decDigits n).length = d at *
 have HWh:=Hd (show Calls Tryz.prog 141 #[.string (s.extract 1 (1 + d)),.int .i64 1099511627776] w fun e w'=>e = .returned (.tuple #[.int .i64 (n:Int),.bool true]) ∧ Below w.heap.size w w' by
  have h:=refWhole_ok (s.extract 1 (1 + d)) w
  rw [HE1.out,HN.out] at h
  exact h)
 have hi:(((1 + d:Nat):Int)) = 1 + (d:Int):=by omega
 have b1:(1:Int) ≤ 1 + (d:Int):=by omega
 have b2:1 + (d:Int) ≤ s.size:=by omega
 have b3:1 + (d:Int) + 1 ≤ s.size:=by omega
 have b4:(s.size:Int) ≤ 65536:=by omega
 rw [hi] at HD
 clear hk hs hrun hl hr hi hsz hl'
 go_enter Tryz.func118,Tryz.ntmps118
 go_wp2_with (first | (go_at_call 93;(with_reducible refine HK.out.mono ?_);rintro e w1 ⟨rfl,hw1⟩;subst w1) | (go_at_call 140;refine (HD.out _).mono ?_;rintro e w2 ⟨rfl,hw2⟩;subst w2))
 go_wp2_with (go_at_call 141;(with_reducible refine HWh.out.mono ?_);rintro e w3 ⟨rfl,hb3⟩;have HB3:=Hd hb3;clear hb3)
 rw [HE2.out]
 go_ret2
 exact ⟨rfl,HB3.out⟩
end Go.Proofs.YtbbaooeioogijaaGreatDoor
namespace Go.Proofs.YtbbaooeioogijaaGreatDoor
open Go.RowKit
def NextP (s:ByteArray) (r:Option (Ty × List UInt8)) (w:World) (e:Ending) (w':World):Prop:=
 (match r with
   | some q=>e = .returned (.tuple #[.int .i64 ((s.size - q.2.length:Nat):Int),.bool true])
   | none=>∃ z:Int,e = .returned (.tuple #[.int .i64 z,.bool false])) ∧ Below w.heap.size w w'
theorem next_no {s:ByteArray} {r:Option (Ty × List UInt8)} {w w':World} {z:Int} (hr:r = none) (hb:Below w.heap.size w w'):NextP s r w (.returned (.tuple #[.int .i64 z,.bool false])) w':=by subst hr;exact ⟨⟨z,rfl⟩,hb⟩
theorem next_yes {s:ByteArray} {r:Option (Ty × List UInt8)} {t:Ty} {q:List UInt8} {w w':World} {z:Int} (hr:r = some (t,q)) (hz:z = ((s.size - q.length:Nat):Int)) (hb:Below w.heap.size w w'):NextP s r w (.returned (.tuple #[.int .i64 z,.bool true])) w':=by
 subst hr;subst hz;exact ⟨rfl,hb⟩
theorem next_end (n k:Nat) (s:ByteArray) (w:World) (hk:s.size ≤ k):Calls Tryz.prog 122 #[.string s,.int .i64 (k:Int)] w (NextP s (tyF n (sfx s k)) w):=by
 have hfin:=Hd (show tyF n (sfx s k) = none by rw [sfx_nil s k hk];cases n <;> rfl)
 have t1:(s.size:Int) ≤ k:=by omega
 go_enter Tryz.func122,Tryz.ntmps122
 go_wp2_with fail
 go_ret2
 exact next_no hfin.out (Below.refl _ _)
set_option maxHeartbeats 2000000 in
theorem next_base (n k:Nat) (s:ByteArray) (w:World) (hk:k < s.size) (hs:s.size ≤ 65536) (hc:isBase s[k] = true):Calls Tryz.prog 122 #[.string s,.int .i64 (k:Int)] w (NextP s (tyF (n + 1) (sfx s k)) w):=by
 have hfin:=Hd (show tyF (n + 1) (sfx s k) = some (.base s[k],sfx s (k + 1)) by rw [sfx_cons s k hk,tyF,if_pos hc])
 have hz:=Hd (show ((k:Int) + 1) = ((s.size - (sfx s (k + 1)).length:Nat):Int) by rw [sfx_length];omega)
 have hs':(s.size:Int) ≤ 65536:=by omega
 have e:∃ x:Nat,s[k].toNat = x ∧ (x = 118 ∨ x = 99 ∨ x = 115 ∨ x = 105 ∨ x = 117 ∨ x = 106):=⟨_,rfl,by rcases base_six hc with h | h | h | h | h | h <;> rw [h] <;> decide⟩
 obtain ⟨x,hx,hor⟩:=e
 have T:∀ d:Nat,((s[k].toNat:Int) == (d:Int)) = decide (x = d):=fun d=>by rw [Bool.eq_iff_iff,beq_iff_eq,decide_eq_true_iff,hx];omega
 clear hc hx
 rcases hor with rfl | rfl | rfl | rfl | rfl | rfl
 all_goals
  have v1:=T 118
  have v2:=T 99
  have v3:=T 115
  have v4:=T 105
  have v5:=T 117
  have v6:=T 106
  simp only [Int.cast_ofNat_Int,Nat.reduceEqDiff,decide_true,decide_false] at v1 v2 v3 v4 v5 v6
  clear T
  go_enter Tryz.func122,Tryz.ntmps122
  go_wp2_with fail
  go_ret2
  exact next_yes hfin.out hz.out (Below.refl _ _)
theorem six_no {c:UInt8} (h:isBase c = false):((c.toNat:Int) == 118) = false ∧ ((c.toNat:Int) == 99) = false ∧ ((c.toNat:Int) == 115) = false ∧ ((c.toNat:Int) == 105) = false ∧ ((c.toNat:Int) == 117) = false ∧ ((c.toNat:Int) == 106) = false:=by
 have key:∀ d:UInt8,isBase d = true → ((c.toNat:Int) == (d.toNat:Int)) = false:=fun d hd=>by
  rw [beq_eq_false_iff_ne]
  intro e
  have:c = d:=UInt8.toNat_inj.1 (by omega)
  rw [this,hd] at h;cases h
 exact ⟨key 118 (by decide),key 99 (by decide),key 115 (by decide),key 105 (by decide),key 117 (by decide),key 106 (by decide)⟩
set_option maxHeartbeats 2000000 in
theorem next_ptr (n k:Nat) (s:ByteArray) (w:World) (hk:k < s.size) (hs:s.size ≤ 65536) (hc:s[k] = 112) (ih:Calls Tryz.prog 122 #[.string s,.int .i64 ((k + 1:Nat):Int)] w (NextP s (tyF n (sfx s (k + 1))) w)) :
 Calls Tryz.prog 122 #[.string s,.int .i64 (k:Int)] w (NextP s (tyF (n + 1) (sfx s k)) w):=by
 have ht:tyF (n + 1) (sfx s k) = (tyF n (sfx s (k + 1))).map fun q=>(.ptr q.1,q.2):=by rw [sfx_cons s k hk,tyF,hc,if_neg (by decide),if_pos rfl]
 have hs':(s.size:Int) ≤ 65536:=by omega
 obtain ⟨v1,v2,v3,v4,v5,v6⟩:=six_no (c:=s[k]) (by rw [hc];decide)
 have v7:((s[k].toNat:Int) == 112) = true:=by rw [hc];rfl
 rw [Int.natCast_add] at ih
 have IH:=Hd ih
 clear ih hc
 rcases hr:tyF n (sfx s (k + 1)) with _ | ⟨t,q⟩
 ·rw [hr] at ht IH
  have hfin:=Hd ht
  clear ht hr
  go_enter Tryz.func122,Tryz.ntmps122
  go_wp2_with (go_at_call 122;refine IH.out.mono ?_;rintro e w1 ⟨⟨z,rfl⟩,hb⟩;have HB:=Hd hb;clear hb)
  go_ret2
  exact next_no hfin.out HB.out
 ·rw [hr] at ht IH
  have hfin:=Hd ht
  clear ht hr
  go_enter Tryz.func122,Tryz.ntmps122
  go_wp2_with (go_at_call 122;refine IH.out.mono ?_;rintro e w1 ⟨rfl,hb⟩;have HB:=Hd hb;clear hb)
  go_ret2
  exact next_yes hfin.out rfl HB.out
theorem let_no {c:UInt8} {d:UInt8} (h:c ≠ d) {m:Int} (hm:(d.toNat:Int) = m):((c.toNat:Int) == m) = false:=by
 rw [beq_eq_false_iff_ne,← hm]
 intro e
 exact h (UInt8.toNat_inj.1 (by omega))
set_option maxHeartbeats 2000000 in
theorem next_other (n k:Nat) (s:ByteArray) (w:World) (hk:k < s.size) (hs:s.size ≤ 65536) (h0:isBase s[k] = false) (h1:s[k] ≠ 112) (h2:s[k] ≠ 97) (h3:s[k] ≠ 83) (h4:s[k] ≠ 102) :
 Calls Tryz.prog 122 #[.string s,.int .i64 (k:Int)] w (NextP s (tyF (n + 1) (sfx s k)) w):=by
 have hfin:=Hd (show tyF (n + 1) (sfx s k) = none by rw [sfx_cons s k hk,tyF,if_neg (by simp [h0]),if_neg h1,if_neg h2,if_neg h3,if_neg h4])
 have hs':(s.size:Int) ≤ 65536:=by omega
 obtain ⟨v1,v2,v3,v4,v5,v6⟩:=six_no h0
 have v7:=let_no h1 (m:=112) rfl
 have v8:=let_no h2 (m:=97) rfl
 have v9:=let_no h3 (m:=83) rfl
 have v10:=let_no h4 (m:=102) rfl
 clear h0 h1 h2 h3 h4
 go_enter Tryz.func122,Tryz.ntmps122
 go_wp2_with fail
 go_ret2
 exact next_no hfin.out (Below.refl _ _)
end Go.Proofs.YtbbaooeioogijaaGreatDoor
namespace Go.Proofs.YtbbaooeioogijaaGreatDoor
open Go.RowKit
theorem sfx_split (s:ByteArray) (k m:Nat):sfx s k = (sfx s k).take m ++ sfx s (k + m):=by rw [← sfx_drop,List.take_append_drop]
set_option maxHeartbeats 4000000 in
set_option maxRecDepth 100000 in
theorem next_str (n k:Nat) (s:ByteArray) (w:World) (hk:k < s.size) (hs:s.size ≤ 65536) (hc:s[k] = 83) :
 Calls Tryz.prog 122 #[.string s,.int .i64 (k:Int)] w (NextP s (tyF (n + 1) (sfx s k)) w):=by
 have ht:=Hd (show tyF (n + 1) (sfx s k) = (cutAt 59 (sfx s (k + 1))).bind fun q=>if nameL q.1 = true then some (.str q.1,q.2) else none by
  rw [sfx_cons s k hk,tyF,hc,if_neg (by decide),if_neg (by decide),if_neg (by decide),if_pos rfl])
 have hs':(s.size:Int) ≤ 65536:=by omega
 obtain ⟨v1,v2,v3,v4,v5,v6⟩:=six_no (c:=s[k]) (by rw [hc];decide)
 have v7:((s[k].toNat:Int) == 112) = false:=by rw [hc];rfl
 have v8:((s[k].toNat:Int) == 97) = false:=by rw [hc];rfl
 have v9:((s[k].toNat:Int) == 83) = true:=by rw [hc];rfl
 clear hc
 go_enter Tryz.func122,Tryz.ntmps122
 go_wp2_with fail
 have hz0:((k:Int) + 1 + ((0:Nat):Int)) = (k:Int) + 1:=by omega
 go_loopg [9] s.size (fun g v wy=>∃ m:Nat,k + 1 + m ≤ s.size ∧ v = .int .i64 ((k:Int) + 1 + (m:Int)) ∧ Hid (s.size = m + g) ∧ Hid (59 ∉ (sfx s (k + 1)).take m) ∧ w = wy)
 case atStart=>exact ⟨0,by omega,by rw [hz0],(Nat.zero_add _).symm,by rw [List.take_zero];exact List.not_mem_nil,rfl⟩
 case round=>
  obtain ⟨m,hm,rfl,hg,hno,rfl⟩:=hrel
  have hi:((k:Int) + 1 + (m:Int)) = ((k + 1 + m:Nat):Int):=by omega
  rw [hi]
  clear hz0
  obtain ⟨j,hj⟩:∃ j,j = k + 1 + m:=⟨_,rfl⟩
  rw [← hj] at hi hm ⊢
  have HJ:=Hd hj
  have HI:=Hd hi
  have hkj:k + 1 ≤ j:=by omega
  clear hj hi
  by_cases hlt:j < s.size
  ·by_cases h59:s[j] = 59
   ·have t1:((s[j].toNat:Int) != 59) = false:=by rw [h59];rfl
    have hL:sfx s (k + 1) = (sfx s (k + 1)).take m ++ 59 :: sfx s (j + 1):=by
     have h1:=sfx_split s (k + 1) m
     rw [← HJ.out,sfx_cons s j hlt,h59] at h1
     exact h1
    have hcut:cutAt 59 (sfx s (k + 1)) = some ((sfx s (k + 1)).take m,sfx s (j + 1)):=by
     conv=>lhs;rw [hL]
     exact cutAt_mk hno.out
    have hX:(s.extract (k + 1) j).data.toList = (sfx s (k + 1)).take m:=by rw [HJ.out,extract_take]
    have hnl:nameL ((sfx s (k + 1)).take m) = isNameB (s.extract (k + 1) j):=by
     rw [← hX,nameL]
    have HN:=Hd (baseName_any (s.extract (k + 1) j) w)
    have ht2:=ht.out
    rw [hcut] at ht2
    simp only [Option.bind_some,hnl] at ht2
    have hz:=Hd (show ((j:Int) + 1) = ((s.size - (sfx s (j + 1)).length:Nat):Int) by rw [sfx_length];omega)
    clear hL hcut hX hnl h59
    rcases hnm:isNameB (s.extract (k + 1) j) with _ | _
    ·rw [hnm] at ht2 HN
     have hfin:=Hd ht2
     clear ht2 hnm
     go_wp2_with (go_at_call 58;refine HN.out.mono ?_;rintro e w1 ⟨rfl,hb⟩;have HB:=Hd hb;clear hb)
     go_ret2
     exact next_no (hfin.out.trans (by simp)) HB.out
    ·rw [hnm] at ht2 HN
     have hfin:=Hd ht2
     clear ht2 hnm
     go_wp2_with (go_at_call 58;refine HN.out.mono ?_;rintro e w1 ⟨rfl,hb⟩;have HB:=Hd hb;clear hb)
     go_ret2
     exact next_yes (hfin.out.trans (if_pos trivial)) hz.out HB.out
   ·have t1:((s[j].toNat:Int) != 59) = true:=by
     rw [bne_iff_ne]
     intro e
     exact h59 (UInt8.toNat_inj.1 (by have h:(59:UInt8).toNat = 59:=rfl;omega))
    have HN:=Hd (show 59 ∉ (sfx s (k + 1)).take (m + 1) by
     rw [List.take_add_one]
     have h1:(sfx s (k + 1))[m]? = some s[j]:=by
      have h2:=sfx_split s (k + 1) m
      rw [← HJ.out,sfx_cons s j hlt] at h2
      rw [h2,List.getElem?_append_right (by rw [List.length_take];omega)]
      rw [List.length_take,sfx_length]
      have:m - min m (s.size - (k + 1)) = 0:=by have:=HJ.out;omega
      rw [this];rfl
     rw [h1]
     simp only [Option.toList_some,List.mem_append,List.mem_singleton,not_or]
     exact ⟨hno.out,fun e=>h59 e.symm⟩)
    clear h59
    go_wp2_with fail
    go_roundg (s.size - (m + 1))
    case measure=>have:=hg.out;have:=HJ.out;omega
    case rel=>exact ⟨m + 1,by have:=HJ.out;omega,by have:=HJ.out;congr 1;omega,by have:=hg.out;have:=HJ.out;show s.size = _;omega,HN,rfl⟩
  ·have hfin:=Hd (show tyF (n + 1) (sfx s k) = none by
    rw [ht.out]
    have h1:(sfx s (k + 1)).take m = sfx s (k + 1):=List.take_of_length_le (by rw [sfx_length];have:=HJ.out;omega)
    rw [cutAt_none.2 (by rw [← h1];exact hno.out)]
    rfl)
   have t3:(s.size:Int) ≤ (j:Int):=by omega
   go_wp2_with fail
   go_ret2
   exact next_no hfin.out (Below.refl _ _)
end Go.Proofs.YtbbaooeioogijaaGreatDoor
