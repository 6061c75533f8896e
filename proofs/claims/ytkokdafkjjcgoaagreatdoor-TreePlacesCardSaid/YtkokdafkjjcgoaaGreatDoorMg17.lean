/- Structs are looked at one by one: the program. -/
import Derived.Test.YtkokdafkjjcgoaaGreatDoorAdd2
namespace Go.Proofs.YtkokdafkjjcgoaaGreatDoor
open Go.RowKit Go.Maps
def SrRow (B:Nat) (w:World) (b off:Nat) (L:List Sr) (mv:List Value):Prop:=∀ i x v,L[i]? = some x → mv[i]? = some v → w.cell? ⟨b,off + i * 2,none⟩ = some (.string x.name) ∧ w.cell? ⟨b,off + i * 2 + 1,none⟩ = some v ∧ IsMems B w v x.mems
structure IsSrs (B:Nat) (w:World) (a:Option Addr) (L:List Sr) (mv:List Value):Prop where
 len:mv.length = L.length
 at_:L ≠ [] → ∃ b off,a = some ⟨b,off,none⟩ ∧ b < B ∧ SrRow B w b off L mv
 names:∀ x ∈ L,x.name.size ≤ maxLen
theorem SrRow.below {B b off:Nat} {w w':World} {L:List Sr} {mv:List Value} (h:SrRow B w b off L mv) (hb:Below B w w') (hB:b < B):SrRow B w' b off L mv:=fun i x v hi hv=>by
 rw [hb.cell hB,hb.cell hB]
 obtain ⟨h1,h2,h3⟩:=h i x v hi hv
 exact ⟨h1,h2,h3.below hb (Nat.le_refl _)⟩
theorem IsSrs.below {B:Nat} {w w':World} {a:Option Addr} {L:List Sr} {mv:List Value} (h:IsSrs B w a L mv) (hb:Below B w w'):IsSrs B w' a L mv:=
 ⟨h.len,fun hn=>(by obtain ⟨b,off,e,hlt,hr⟩:=h.at_ hn;exact ⟨b,off,e,hlt,hr.below hb hlt⟩),h.names⟩
theorem memsK_ne {K:List Kn}:∀ (l:List (ByteArray × ByteArray)) (seen:List ByteArray) (n a:Nat) {c:Int},memsK K l seen n a = .inl c → c ≠ 0
 | [],_,_,_,_,h=>by rw [memsK] at h;cases h
 | m :: l,seen,n,a,c,h=>by
   rw [memsK] at h
   split at h
   ·obtain rfl:=Sum.inl.inj h;decide
   ·split at h
    ·obtain rfl:=Sum.inl.inj h;decide
    ·split at h
     ·obtain rfl:=Sum.inl.inj h;decide
     ·split at h
      ·obtain rfl:=Sum.inl.inj h;assumption
      ·split at h
       ·obtain rfl:=Sum.inl.inj h;decide
       ·exact memsK_ne l _ _ _ h
theorem addK_ne {K:List Kn} {x:Sr} {c:Int} (h:addK K x = .inl c):c ≠ 0:=by
 unfold addK at h
 split at h
 ·obtain rfl:=Sum.inl.inj h;decide
 ·split at h
  ·obtain rfl:=Sum.inl.inj h;decide
  ·split at h
   ·obtain rfl:=Sum.inl.inj h;decide
   ·split at h
    ·obtain rfl:=Sum.inl.inj h;decide
    ·split at h
     ·obtain rfl:=Sum.inl.inj h
      rename_i h1
      exact memsK_ne _ _ _ _ h1
     ·split at h
      ·obtain rfl:=Sum.inl.inj h;decide
      ·cases h
theorem memsK_al {K:List Kn} (hF:FitK K):∀ (l:List (ByteArray × ByteArray)) (seen:List ByteArray) (n a:Nat) {n' a':Nat},1 ≤ a ∧ a ≤ 4 → memsK K l seen n a = .inr (n',a') → 1 ≤ a' ∧ a' ≤ 4
 | [],_,_,_,_,_,ha,h=>by rw [memsK] at h;obtain ⟨rfl,rfl⟩:=Prod.mk.inj (Sum.inr.inj h);exact ha
 | m :: l,seen,n,a,n',a',ha,h=>by
   rw [memsK] at h
   split at h
   ·cases h
   ·split at h
    ·cases h
    ·split at h
     ·cases h
     ·split at h
      ·cases h
      ·split at h
       ·cases h
       ·rename_i t _ _ _
        have:=meas_al hF t
        exact memsK_al hF l _ _ _ (by omega) h
theorem addK_fit {K:List Kn} (hF:FitK K) (h64:K.length < 64) {x:Sr} {k:Kn} (h:addK K x = .inr k):FitK (K ++ [k]):=by
 refine ⟨by simp;omega,fun k' hk'=>?_⟩
 rcases List.mem_append.1 hk' with h1 | h1
 ·exact hF.2 k' h1
 ·obtain rfl:=List.mem_singleton.1 h1
  refine ⟨(addK_bd h).2.2,?_⟩
  unfold addK at h
  split at h
  ·cases h
  ·split at h
   ·cases h
   ·split at h
    ·cases h
    ·split at h
     ·cases h
     ·split at h
      ·cases h
      ·split at h
       ·cases h
       ·rename_i n a hm _
        obtain rfl:=Sum.inr.inj h
        exact memsK_al hF _ _ _ _ ⟨Nat.le_refl _,by decide⟩ hm
def LearnEnd (mv:List Value) (L:List Sr) (w:World) (e:Ending) (w':World):Prop:=
 Below w.heap.size w w' ∧ ((∃ (i:Nat) (c:Int),learnK L = .inl (i,c) ∧ c ≠ 0 ∧ e = .returned (.tuple #[.pointer none,.agg #[.int .i64 (i:Int),.int .i64 c]])) ∨
  ∃ K b mb lv sv av,learnK L = .inr K ∧ e = .returned (.tuple #[.pointer (some ⟨b,0,none⟩),.agg #[.int .i64 0,.int .i64 0]]) ∧ FitK K ∧ KnAt (w.heap.size + 1) w' b mb lv sv av mv K)
structure LearnInv (w w1:World) (b mb:Nat) (mv:List Value) (L:List Sr) (wy:World) (j:Nat) (K:List Kn):Prop where
 rest:learnF [] L = learnF K (L.drop j)
 len:K.length = j
 fit:FitK K
 below:Below (w.heap.size + 1) w1 wy
 kn:∃ lv sv av,KnAt (w.heap.size + 1) wy b mb lv sv av (mv.take j) K
theorem learn_no {mv:List Value} {L:List Sr} {w w':World} {i:Nat} {c:Int} (h:learnK L = .inl (i,c)) (hc:c ≠ 0) (hb:Below w.heap.size w w') :
 LearnEnd mv L w (.returned (.tuple #[.pointer none,.agg #[.int .i64 (i:Int),.int .i64 c]])) w':=⟨hb,.inl ⟨i,c,h,hc,rfl⟩⟩
theorem learn_yes {mv:List Value} {L:List Sr} {w w':World} {K:List Kn} {b mb:Nat} {lv sv av:Value} (h:learnK L = .inr K) (hF:FitK K) (hk:KnAt (w.heap.size + 1) w' b mb lv sv av mv K) (hb:Below w.heap.size w w') :
 LearnEnd mv L w (.returned (.tuple #[.pointer (some ⟨b,0,none⟩),.agg #[.int .i64 0,.int .i64 0]])) w':=⟨hb,.inr ⟨K,b,mb,lv,sv,av,h,rfl,hF,hk⟩⟩
theorem IsMems.mono {B B':Nat} {w:World} {v:Value} {L:List (ByteArray × ByteArray)} (h:IsMems B w v L) (hB:B ≤ B'):IsMems B' w v L:=by
 obtain ⟨a,cap,rfl,hr⟩:=h
 refine ⟨a,cap,rfl,fun hn=>?_⟩
 obtain ⟨b,off,rfl,hlt,hm⟩:=hr hn
 exact ⟨b,off,rfl,Nat.lt_of_lt_of_le hlt hB,hm⟩
theorem KnAt.low {B b mb:Nat} {w:World} {lv sv av:Value} {mv:List Value} {K:List Kn} (h:KnAt B w b mb lv sv av mv K) (a:Addr) (ha:a.block < B) (v:Value):KnAt B (w.setCell a v) b mb lv sv av mv K:=
 ⟨by rw [Below.heap_setCell _ _ _ _ (by have:=h.base.1;omega)];exact h.blk,h.base,h.names.other _ (by have:=h.base.2.1;omega) _,ownsRow_setCell_below h.sizes ha _,ownsRow_setCell_below h.aligns ha _,ownsRow_setCell_below h.list ha _,h.mems,h.apart⟩
theorem learntW_kn1 (w:World):KnAt (w.heap.size + 1) (learntW w) (w.heap.size + 2) (w.heap.size + 1) (.slice none 0 0) (.slice none 0 0) (.slice none 0 0) [] []:=
 knAt_nil (learntW_kn w).blk ⟨by omega,by omega,by omega⟩ (learntW_kn w).names
theorem learnInv_start {w:World} {mv:List Value} {L:List Sr}:LearnInv w (learntW w) (w.heap.size + 2) (w.heap.size + 1) mv L (learntW w) 0 []:=
 ⟨rfl,rfl,fitK_nil,Below.refl _ _,_,_,_,learntW_kn1 w⟩
theorem LearnInv.next {w w1 w2 w3 wy:World} {b mb j:Nat} {mv:List Value} {L:List Sr} {K:List Kn} {x:Sr} {v:Value} {k:Kn} {lv sv av:Value} (h:LearnInv w w1 b mb mv L wy j K) (hj:K.length < 64) (h1:w.heap.size + 1 ≤ wy.heap.size) (h2:Below wy.heap.size wy w2) (h3:Below (w.heap.size + 1) w2 w3)
 (hx:L.drop j = x :: L.drop (j + 1)) (hv:mv.take (j + 1) = mv.take j ++ [v]) (hk:addK K x = .inr k) (hkn:KnAt (w.heap.size + 1) w3 b mb lv sv av (mv.take j ++ [v]) (K ++ [k])):LearnInv w w1 b mb mv L w3 (j + 1) (K ++ [k]):=by
 refine ⟨?_,by simp [h.len],addK_fit h.fit hj hk,h.below.trans ((h2.mono h1).trans h3),lv,sv,av,by rw [hv];exact hkn⟩
 rw [h.rest,hx,learnF,hk]
theorem LearnInv.bad {w w1 wy:World} {b mb j:Nat} {mv:List Value} {L:List Sr} {K:List Kn} {x:Sr} {c:Int} (h:LearnInv w w1 b mb mv L wy j K) (hx:L.drop j = x :: L.drop (j + 1)) (hk:addK K x = .inl c):learnF [] L = .inl (j,c):=by
 rw [h.rest,hx,learnF,hk,h.len]
theorem LearnInv.done {w w1 wy:World} {b mb:Nat} {mv:List Value} {L:List Sr} {K:List Kn} (h:LearnInv w w1 b mb mv L wy L.length K):learnF [] L = .inr K:=by
 rw [h.rest,List.drop_length,learnF]
set_option maxRecDepth 100000 in
set_option maxHeartbeats 4000000 in
theorem learn_ok (a:Option Addr) (cap:Nat) (L:List Sr) (mv:List Value) (w:World) (hE:TE w) (hS:IsSrs w.heap.size w a L mv) :
 Calls Tryz.prog 123 #[.slice a L.length cap] w fun e w'=>LearnEnd mv L w e w':=by
 have HE:=Hd hE
 have HS:=Hd hS
 have hmm:=@run_makeMap Tryz.prog
 clear hE hS
 by_cases h64:64 < L.length
 ·have hfin:=Hd (show learnK L = .inl (0,3) by unfold learnK;rw [if_pos h64])
  have t1:(64:Int) < L.length:=by omega
  clear h64
  go_enter Tryz.func123,Tryz.ntmps123
  go_wp2_with fail
  exact bodyPost_ret (v:=.tuple #[.pointer none,.agg #[.int .i64 ((0:Nat):Int),.int .i64 3]]) (by simp [results,Tryz.results123,go_sem]) rfl (learn_no hfin.out (by decide) ((Below.refl _ _).alloc (Nat.le_refl _) _))
 have t1:(L.length:Int) ≤ 64:=by omega
 have hL:=Hd (show learnK L = learnF [] L by unfold learnK;rw [if_neg h64])
 have hat:=learntW_at w
 obtain ⟨⟨d0,d1⟩,fd⟩:=two_block hat
 have hkn:=learntW_kn w
 go_enter Tryz.func123,Tryz.ntmps123
 go_wp2_with fail
 rw [learntW_eq]
 have hi0:=learnInv_start (w:=w) (mv:=mv) (L:=L)
 have hw1:=learntW_below w
 have hsz:=learntW_size w
 generalize learntW w = w1 at *
 have HI0:=Hd hi0
 have HW1:=Hd hw1
 have HAt:=Hd hat
 have HSz:=Hd hsz
 clear hkn hi0 hw1 fd hat hsz d0 d1
 go_loopg [17] L.length (fun g v17 wy=>∃ (j:Nat) (K:List Kn),j ≤ L.length ∧ j + g = L.length ∧ v17 = .int .i64 (j:Int) ∧ Hid (LearnInv w w1 (w.heap.size + 2) (w.heap.size + 1) mv L wy j K))
 case atStart=>exact ⟨0,[],by omega,by omega,rfl,HI0.out⟩
 case round=>
  obtain ⟨j,K,hj,hjg,rfl,HI⟩:=hrel
  have hbr:Below w.heap.size w wr:=HW1.out.trans (HI.out.below.mono (by omega))
  have hzr:w.heap.size + 1 ≤ wr.heap.size:=by have:=HI.out.below.size;have:=HSz.out;omega
  have hat:wr.heap[w.heap.size]? = some (.cells #[.int .i64 0,.int .i64 0] 68 (0,0)):=(HI.out.below.block _ (by omega)).trans HAt.out
  by_cases hlt:j < L.length
  ·obtain ⟨bb,off,ha,hbl,hrow⟩:=HS.out.at_ (fun e=>by rw [e] at hlt;simp at hlt)
   have hlm:j < mv.length:=by rw [HS.out.len];exact hlt
   obtain ⟨e1,e2,hms⟩:=hrow j _ _ (List.getElem?_eq_getElem hlt) (List.getElem?_eq_getElem hlm)
   rw [← hbr.cell hbl] at e1 e2
   have hx:=drop_at L j hlt
   have hv:=take_at mv j hlm
   have hnx:=HS.out.names _ (List.getElem_mem hlt)
   generalize L[j]'hlt = x at *
   generalize mv[j]'hlm = v at *
   have HX:=Hd hx
   have HV:=Hd hv
   have HMs:=Hd (hms.below hbr (Nat.le_refl _))
   have HMl:=Hd HS.out.len
   obtain ⟨am,cm,rfl,_⟩:=hms
   have HAt':=Hd hat
   have HNx:=Hd hnx
   have HBr:=Hd hbr
   clear hx hv hrow hlm hat hnx hbr
   subst ha
   go_upto_region 7 with fail
   have hm2:(wr.alloc (.cells #[.string x.name,.slice am x.mems.length cm] 114)).heap[wr.heap.size]? = some (.cells #[.string x.name,.slice am x.mems.length cm] 114 (0,0)):=heap_alloc_new _ _
   have hb2:Below wr.heap.size wr (wr.alloc (.cells #[.string x.name,.slice am x.mems.length cm] 114)):=(Below.refl _ _).alloc (Nat.le_refl _) _
   generalize wr.alloc (.cells #[.string x.name,.slice am x.mems.length cm] 114) = w2 at *
   obtain ⟨⟨m0,m1⟩,_⟩:=two_block hm2
   have HB2:=Hd hb2
   have hbw2:=HBr.out.trans (hb2.mono HBr.out.size)
   have hk64:K.length < 64:=by have:=HI.out.len;omega
   obtain ⟨lv,sv,av,hkn⟩:=HI.out.kn
   have HA:=Hd (add_ok x (.slice am x.mems.length cm) w2 (HE.out.below hbw2) (hkn.below hb2) HI.out.fit hk64 HNx.out ((HMs.out.below hb2 HBr.out.size).mono hbw2.size))
   have h30:=(hb2.block _ (by omega)).trans HAt'.out
   have HAt2:=Hd h30
   have hz2:=lt_of_heap h30
   clear hkn hbw2 hb2 hm2 h30 e1 e2
   go_wp2_with (go_at_call 166;(with_reducible refine HA.out.mono ?_))
   intro e w3 hend
   obtain ⟨hb3,⟨c,hc,rfl⟩ | ⟨k,lv',sv',av',hk,rfl,hkn⟩⟩:=hend
   ·have hfin:=Hd (hL.out.trans (HI.out.bad HX.out hc))
    have hcn:=addK_ne hc
    have t3:(c != 0) = true:=by simp [hcn]
    have h31:=(hb3.block _ (by omega)).trans HAt2.out
    have hz3:=lt_of_heap h31
    obtain ⟨⟨d0,d1⟩,fd⟩:=two_block h31
    have fd0:=fd 0
    have fd1:=fd 1
    have HB3:=Hd (HBr.out.trans ((HB2.out.mono HBr.out.size).trans (hb3.mono (Nat.le_succ _))))
    have HCn:=Hd hcn
    clear fd hb3 hc hcn h31
    go_wp2_with fail
    exact bodyPost_ret (v:=.tuple #[.pointer none,.agg #[.int .i64 (j:Int),.int .i64 c]]) (by simp [results,Tryz.results123,go_sem,d0,d1]) rfl (learn_no hfin.out HCn.out (set_fault HB3.out _ _))
   ·have HN:=Hd (HI.out.next hk64 hzr HB2.out hb3 HX.out HV.out hk hkn)
    clear hb3 hk hkn
    go_wp2_with fail
    go_roundg (L.length - (j + 1))
    case measure=>omega
    case rel=>exact ⟨j + 1,K ++ [k],by omega,by omega,by rw [Int.natCast_add];rfl,HN.out⟩
  ·obtain rfl:j = L.length:=by omega
   have t3:(L.length:Int) ≤ (L.length:Int):=Int.le_refl _
   have hfin:=Hd (hL.out.trans HI.out.done)
   obtain ⟨lv,sv,av,hkn⟩:=HI.out.kn
   have htk:mv.take L.length = mv:=List.take_of_length_le (by rw [HS.out.len];exact Nat.le_refl _)
   rw [htk] at hkn
   have HKn:=Hd hkn
   have HFt:=Hd HI.out.fit
   have HBr:=Hd hbr
   have hz3:=lt_of_heap hat
   obtain ⟨⟨d0,d1⟩,fd⟩:=two_block hat
   have fd0:=fd 0
   have fd1:=fd 1
   clear fd hbr hkn hat
   go_wp2_with fail
   exact bodyPost_ret (v:=.tuple #[.pointer (some ⟨w.heap.size + 2,0,none⟩),.agg #[.int .i64 0,.int .i64 0]]) (by simp [results,Tryz.results123,go_sem,d0,d1]) rfl (learn_yes hfin.out HFt.out ((HKn.out.low _ (Nat.lt_succ_self _) _).low _ (Nat.lt_succ_self _) _) (set_fault HBr.out _ _))
end Go.Proofs.YtkokdafkjjcgoaaGreatDoor
namespace Go.Proofs.YtkokdafkjjcgoaaGreatDoor
open Go.RowKit
theorem addK_right {K:List Kn} {x:Sr} {k:Kn} (h:addK K x = .inr k):isNameB x.name = true ∧ (findK K x.name.data.toList).isSome = false ∧ x.mems.length ≤ 64 ∧ x.mems ≠ [] ∧ ∃ n a,memsK K x.mems [] 0 1 = .inr (n,a) ∧ k = { x with size:=fitN n a,align:=a } ∧ fitN n a ≤ 65536:=by
 unfold addK at h
 split at h
 ·cases h
 ·rename_i h1
  split at h
  ·cases h
  ·rename_i h2
   split at h
   ·cases h
   ·rename_i h3
    split at h
    ·cases h
    ·rename_i h4
     split at h
     ·cases h
     ·rename_i n a hm
      split at h
      ·cases h
      ·rename_i h5
       exact ⟨by simpa using h1,by simpa using h2,by omega,h4,n,a,hm,(Sum.inr.inj h).symm,by omega⟩
def declareV (r:Option Ty) (name:ByteArray):Value:=match r with
 | none=>.tuple #[.string ⟨#[]⟩,.int .i64 2]
 | some t=>if name = ⟨#[]⟩ ∨ isNameB name = true then .tuple #[.string (strB (declT t name.data.toList)),.int .i64 0] else .tuple #[.string ⟨#[]⟩,.int .i64 2]
theorem emp_iff (s:ByteArray):s.toList.isEmpty = decide (s = ⟨#[]⟩):=by
 rw [Lib.toList_data,Bool.eq_iff_iff,List.isEmpty_iff,decide_eq_true_iff]
 exact ⟨fun h=>toList_eq (by rw [h]),fun h=>by rw [h]⟩
theorem name_size {s:ByteArray} (h:isNameB s = true):s.size ≤ 31:=by
 unfold isNameB at h
 simp only [Bool.and_eq_true,decide_eq_true_iff] at h
 exact h.2.1
set_option maxHeartbeats 1000000 in
theorem declare_ok (s name:ByteArray) (w:World) (hE:TP w):Calls Tryz.prog 116 #[.string s,.string name] w fun e w'=>e = .returned (declareV (tyS s) name) ∧ Below w.heap.size w w':=by
 have HE:=Hd hE
 rcases h:tyS s with _ | t
 ·have HF:=Hd (form_is false s w hE.te (by rw [h];rfl))
  clear h hE
  go_enter Tryz.func116,Tryz.ntmps116
  go_wp2_with (go_at_call 149;(with_reducible refine HF.out.mono ?_);rintro e w1 ⟨rfl,hb1⟩)
  go_ret2
  exact ⟨rfl,hb1⟩
 ·have HF:=Hd (form_is true s w hE.te (by rw [h];rfl))
  obtain ⟨hs,hr,hl⟩:=tyS_some.1 h
  have HD:=Hd (fun w hE (hz:name.size ≤ 31)=>show Calls Tryz.prog 151 #[.string s,.string name] w fun e w'=>e = .returned (.string (strB (declT t name.data.toList))) ∧ Below w.heap.size w w' by
   have hn:name.data.toList.length = name.size:=by rw [Array.length_toList];rfl
   have:=declared_ok _ t (Nat.le_refl _) hr hl name.data.toList w hE (by omega)
   rw [strB_self,← hs] at this
   exact this)
  by_cases h0:name = ⟨#[]⟩
  ·have hfin:=Hd (show declareV (some t) name = .tuple #[.string (strB (declT t name.data.toList)),.int .i64 0] from if_pos (.inl h0))
   have t1:name.toList.isEmpty = true:=by rw [emp_iff];simpa using h0
   have HZ:=Hd (show name.size ≤ 31 by rw [h0];decide)
   clear h hE hs hr hl h0
   go_enter Tryz.func116,Tryz.ntmps116
   go_wp2_with (first | (go_at_call 149;(with_reducible refine HF.out.mono ?_);rintro e w1 ⟨rfl,hb1⟩;have HE1:=Hd (HE.out.below hb1)) | (go_at_call 151;(with_reducible refine (HD.out _ HE1.out HZ.out).mono ?_);rintro e w2 ⟨rfl,hb2⟩))
   go_ret2
   exact ⟨tup_eq hfin.out.symm,hb1.trans (hb2.mono hb1.size)⟩
  ·have t1:name.toList.isEmpty = false:=by rw [emp_iff];simpa using h0
   rcases hn:isNameB name with _ | _
   ·have hfin:=Hd (show declareV (some t) name = .tuple #[.string ⟨#[]⟩,.int .i64 2] from if_neg (by rintro (h | h);exact h0 h;rw [hn] at h;cases h))
    have HN:=Hd hn
    clear h hE hs hr hl h0 hn
    go_enter Tryz.func116,Tryz.ntmps116
    go_wp2_with (go_at_call 149;(with_reducible refine HF.out.mono ?_))
    rintro e w1 ⟨rfl,hb1⟩
    have HE1:=Hd (HE.out.below hb1)
    go_wp2_with (go_at_call 124;(with_reducible refine (lexIsName_any name _ HE1.out.te.keys).mono ?_))
    rintro e w2 ⟨rfl,hb2⟩
    rw [HN.out]
    go_wp2_with fail
    go_ret2
    exact ⟨tup_eq hfin.out.symm,hb1.trans (hb2.mono hb1.size)⟩
   ·have hfin:=Hd (show declareV (some t) name = .tuple #[.string (strB (declT t name.data.toList)),.int .i64 0] from if_pos (.inr hn))
    have HN:=Hd hn
    have HZ:=Hd (name_size hn)
    clear h hE hs hr hl h0 hn
    go_enter Tryz.func116,Tryz.ntmps116
    go_wp2_with (go_at_call 149;(with_reducible refine HF.out.mono ?_))
    rintro e w1 ⟨rfl,hb1⟩
    have HE1:=Hd (HE.out.below hb1)
    go_wp2_with (go_at_call 124;(with_reducible refine (lexIsName_any name _ HE1.out.te.keys).mono ?_))
    rintro e w2 ⟨rfl,hb2⟩
    rw [HN.out]
    have HE2:=Hd (HE1.out.below hb2)
    go_wp2_with (go_at_call 151;(with_reducible refine (HD.out _ HE2.out HZ.out).mono ?_);rintro e w3 ⟨rfl,hb3⟩)
    go_ret2
    exact ⟨tup_eq hfin.out.symm,(hb1.trans (hb2.mono hb1.size)).trans (hb3.mono (hb1.trans (hb2.mono hb1.size)).size)⟩
theorem IsSrs.mono {B B':Nat} {w:World} {a:Option Addr} {L:List Sr} {mv:List Value} (h:IsSrs B w a L mv) (hB:B ≤ B'):IsSrs B' w a L mv:=
 ⟨h.len,fun hn=>(by
   obtain ⟨b,off,e,hlt,hr⟩:=h.at_ hn
   exact ⟨b,off,e,Nat.lt_of_lt_of_le hlt hB,fun i x v hi hv=>(by obtain ⟨h1,h2,h3⟩:=hr i x v hi hv;exact ⟨h1,h2,h3.mono hB⟩)⟩),h.names⟩
end Go.Proofs.YtkokdafkjjcgoaaGreatDoor
namespace Go
theorem step_append_own {P:Program} {w:World} {ops:Array Oper} {o:Oper} {a:Act} {K:Act → World → Prop} {Q:Exit → Act → World → Prop} {E:Prop} (hgd:o.guard = none) (s x:Operand) (t:TypeId)
 (ho:o.op = .call { callee:=.builtin .append,args:=#[s,x],argTypes:=#[t,t] })
 (base:Nat) (e:TypeId) (i:TypeInfo) (z:Value) (size bytes:Nat) (ht:P.underlying t = some (.slice e)) (hi:P.info? e = some i) (hz:i.zero = some z)
 (hsize:i.size = size) (hby:i.bytes = bytes) (hzs:z.cells.size = size) (hsz:0 < size)
 (v:Value) (n:Nat) (xs:List Value) (hs:a.eval s = v) (hown:w.ownsRow base e size v n xs)
 (ad:Addr) (m c:Nat) (news:List Value) (hx:a.eval x = .slice (some ad) m c) (hl:news.length = m * size) (hnews:∀ j u,news[j]? = some u → w.cell? (ad.add j) = some u) (h1:∀ u ∈ news,u.oneCell' = true)
 (h63:n + m ≤ maxLen) (hbytes:(n + m) * bytes ≤ 140737488355328) (hbase:base ≤ w.heap.size)
 (h:∀ v' w',w'.ownsRow base e size v' (n + m) (xs ++ news) → w.grownBy w' v.ownBlock → (v' = .slice none 0 0 ↔ v = .slice none 0 0 ∧ m = 0) → K (a.put o.dst v') w') :
 if Region.wanted o (yielded ops a.tmps) = true then Oper.wp P o a w K Q else E:=by
 have hw:Region.wanted o (yielded ops a.tmps) = true:=by simp [Region.wanted,hgd]
 rw [if_pos hw]
 exact wp_append_own w s x t ho base e i z size bytes ht hi hz hsize hby hzs hsz v n xs hs hown ad m c news hx hl hnews h1 h63 hbytes hbase h
end Go
namespace Go.Proofs.YtkokdafkjjcgoaaGreatDoor
open Go.RowKit
def flat2:List (Value × Value) → List Value
 | []=>[]
 | q :: l=>q.1 :: q.2 :: flat2 l
theorem flat2_length:∀ l,(flat2 l).length = l.length * 2
 | []=>rfl
 | q :: l=>by rw [flat2];simp [flat2_length l];omega
theorem flat2_at:∀ {l:List (Value × Value)} {i:Nat} {q:Value × Value},l[i]? = some q → (flat2 l)[i * 2]? = some q.1 ∧ (flat2 l)[i * 2 + 1]? = some q.2
 | [],_,_,h=>by simp at h
 | p :: l,0,q,h=>by
   simp at h;subst h;exact ⟨rfl,rfl⟩
 | p :: l,i + 1,q,h=>by
   obtain ⟨h1,h2⟩:=flat2_at (l:=l) (i:=i) (q:=q) (by simpa using h)
   rw [flat2]
   have e1:(i + 1) * 2 = i * 2 + 1 + 1:=by omega
   rw [e1]
   exact ⟨by simpa using h1,by simpa using h2⟩
theorem flat2_inv:∀ {l:List (Value × Value)} {j:Nat} {u:Value},(flat2 l)[j]? = some u → ∃ (i:Nat) (q:Value × Value),l[i]? = some q ∧ ((j = i * 2 ∧ u = q.1) ∨ (j = i * 2 + 1 ∧ u = q.2))
 | [],_,_,h=>by simp [flat2] at h
 | p :: l,0,u,h=>⟨0,p,rfl,.inl ⟨rfl,by rw [flat2] at h;simpa using h.symm⟩⟩
 | p :: l,1,u,h=>⟨0,p,rfl,.inr ⟨rfl,by rw [flat2] at h;simpa using h.symm⟩⟩
 | p :: l,j + 2,u,h=>by
   rw [flat2] at h
   obtain ⟨i,q,h1,h2⟩:=flat2_inv (l:=l) (j:=j) (u:=u) (by simpa using h)
   exact ⟨i + 1,q,by simpa using h1,by rcases h2 with ⟨h2,h3⟩ | ⟨h2,h3⟩;exact .inl ⟨by omega,h3⟩;exact .inr ⟨by omega,h3⟩⟩
def pairM (ms:List (ByteArray × ByteArray)):List (Value × Value):=ms.map fun m=>(.string m.1,.string m.2)
theorem add2 (b off j:Nat):(⟨b,off,none⟩:Addr).add j = ⟨b,off + j,none⟩:=by unfold Addr.add;split <;> simp_all
theorem own_nil {w:World} {g base k:Nat} {T:TypeId} (h:w.heap[g]? = some (.cells #[] T (0,0))) (hb:base ≤ g):w.ownsRow base T k (.slice (some ⟨g,0,none⟩) 0 0) 0 []:=
 ⟨by simp,.inr ⟨g,0,#[],rfl,hb,h,Nat.le_refl _,by decide,by simp,by simp⟩⟩
theorem news2 {w:World} {g:Nat} {c0 c1:Value} {T:TypeId} (h:w.heap[g]? = some (.cells #[c0,c1] T (0,0))):∀ (j:Nat) u,[c0,c1][j]? = some u → w.cell? ((⟨g,0,none⟩:Addr).add j) = some u:=fun j u hu=>by
 obtain ⟨⟨h0,h1⟩,_⟩:=two_block h
 match j,hu with
 | 0,hu=>obtain rfl:=Option.some.inj hu;rw [add2];exact h0
 | 1,hu=>obtain rfl:=Option.some.inj hu;rw [add2];exact h1
theorem blw1 (w:World) (o:Obj):Below w.heap.size w (w.alloc o).drew:=((Below.refl _ _).alloc (Nat.le_refl _) _).drew
theorem blw2 (w:World) (o o2:Obj):Below w.heap.size w ((w.alloc o).alloc o2).drew:=(((Below.refl _ _).alloc (Nat.le_refl _) _).alloc (by simp) _).drew
end Go.Proofs.YtkokdafkjjcgoaaGreatDoor
namespace Go.Proofs.YtkokdafkjjcgoaaGreatDoor
theorem partsE_length (fr:List Nat):∀ (n e:Nat),(partsE fr n e).length = n
 | 0,_=>rfl
 | n + 1,e=>by rw [partsE,List.length_append,partsE_length fr n];rfl
theorem partsE_lt {fr:List Nat}:∀ {n e:Nat},Back fr n e → ∀ p ∈ partsE fr n e,p < e
 | 0,_,_,p,hp=>by rw [partsE] at hp;cases hp
 | n + 1,e,⟨h1,h2,h3⟩,p,hp=>by
   rw [partsE] at hp
   rcases List.mem_append.1 hp with hp | hp
   ·have:=partsE_lt h3 p hp;omega
   ·obtain rfl:=List.mem_singleton.1 hp;omega
theorem partsAt_is {t:List Nd} {fr:List Nat} {k:Nat} {x:Nd} (hx:t[k]? = some x):partsAt t fr k = partsE fr x.n.toNat k:=by unfold partsAt;rw [hx];rfl
theorem kindAt_is {t:List Nd} {k:Nat} {x:Nd} (hx:t[k]? = some x):kindAt t k = x.kind:=by unfold kindAt;rw [hx];rfl
theorem Formed.parts_lt {t:List Nd} {fr:List Nat} (h:Formed t fr) {k p:Nat} (hp:p ∈ partsAt t fr k):p < k:=by
 unfold partsAt at hp
 cases hx:t[k]? with
 | none=>rw [hx] at hp;simp [partsE] at hp
 | some x=>
   rw [hx] at hp
   exact partsE_lt (h.node k x hx).2.1 p hp
theorem well_parts {x:Nd} (h:wellN x = true):(arityN x.kind).1 ≤ x.n ∧ x.n ≤ (arityN x.kind).2 ∧ 0 ≤ (arityN x.kind).1:=by
 unfold wellN sizeOk at h
 simp only [Bool.and_eq_true,decide_eq_true_eq] at h
 exact ⟨h.1.2.1,h.1.2.2.1,h.1.1⟩
theorem openF_more {t:List Nd} {fr:List Nat} (h:Formed t fr) (hw:∀ (k:Nat) x,t[k]? = some x → wellN x = true):∀ (m k:Nat),k < t.length → k < m → openF t fr m k = openF t fr (k + 1) k
 | 0,k,_,hk=>by omega
 | m + 1,k,hl,hk=>by
   have hx:=List.getElem?_eq_getElem hl
   have hwx:=well_parts (hw k _ hx)
   rw [openF,openF]
   have hpl:(partsAt t fr k).length = t[k].n.toNat:=by rw [partsAt_is hx,partsE_length]
   have hkd:=kindAt_is hx
   have key:∀ i,i < (partsAt t fr k).length → openF t fr m ((partsAt t fr k).getD i 0) = openF t fr k ((partsAt t fr k).getD i 0):=fun i hi=>by
    have hm:(partsAt t fr k).getD i 0 ∈ partsAt t fr k:=by
     rw [List.getD_eq_getElem?_getD,List.getElem?_eq_getElem hi]
     exact List.getElem_mem hi
    have hlt:=h.parts_lt hm
    rw [openF_more h hw m _ (by omega) (by omega),openF_more h hw k _ (by omega) hlt]
   by_cases h23:kindAt t k = 23
   ·rw [if_pos h23,if_pos h23]
    by_cases h2:(partsAt t fr k).length = 2
    ·simp [h2]
    ·have:2 < (partsAt t fr k).length:=by
      rw [hkd] at h23
      rw [h23] at hwx
      have:arityN 23 = (2,3):=by decide
      rw [this] at hwx
      rw [hpl] at h2 ⊢
      simp only at hwx
      omega
     rw [key 2 this]
   ·rw [if_neg h23,if_neg h23]
    split
    ·rename_i hk5
     have:0 < (partsAt t fr k).length:=by
      have ha:1 ≤ (arityN t[k].kind).1:=by
       rw [hkd] at hk5
       rcases hk5 with e | e | e | e | e <;> rw [e] <;> decide
      rw [hpl]
      omega
     rw [key _ (by omega)]
    ·rfl
theorem open_if {t:List Nd} {fr:List Nat} (h:Formed t fr) (hw:∀ (k:Nat) x,t[k]? = some x → wellN x = true) {k:Nat} (hl:k < t.length) (h23:kindAt t k = 23):openN t fr k = (decide ((partsAt t fr k).length = 2) || (decide (2 < (partsAt t fr k).length) && openN t fr ((partsAt t fr k).getD 2 0))):=by
 unfold openN
 rw [openF]
 rw [if_pos h23]
 by_cases h2:(partsAt t fr k).length = 2
 ·simp [h2]
 ·have hx:=List.getElem?_eq_getElem hl
  have hwx:=well_parts (hw k _ hx)
  have hpl:(partsAt t fr k).length = t[k].n.toNat:=by rw [partsAt_is hx,partsE_length]
  have h3:2 < (partsAt t fr k).length:=by
   rw [kindAt_is hx] at h23
   rw [h23,show arityN 23 = (2,3) by decide] at hwx
   rw [hpl] at h2 ⊢
   simp only at hwx
   omega
  have hm:(partsAt t fr k).getD 2 0 ∈ partsAt t fr k:=by
   rw [List.getD_eq_getElem?_getD,List.getElem?_eq_getElem h3]
   exact List.getElem_mem h3
  have hlt:=h.parts_lt hm
  rw [openF_more h hw k _ (by omega) hlt]
  simp [h2,h3]
theorem open_last {t:List Nd} {fr:List Nat} (h:Formed t fr) (hw:∀ (k:Nat) x,t[k]? = some x → wellN x = true) {k:Nat} (hl:k < t.length) (h5:kindAt t k = 24 ∨ kindAt t k = 26 ∨ kindAt t k = 27 ∨ kindAt t k = 28 ∨ kindAt t k = 29) :
 0 < (partsAt t fr k).length ∧ openN t fr k = openN t fr ((partsAt t fr k).getD ((partsAt t fr k).length - 1) 0):=by
 have hx:=List.getElem?_eq_getElem hl
 have hwx:=well_parts (hw k _ hx)
 have hpl:(partsAt t fr k).length = t[k].n.toNat:=by rw [partsAt_is hx,partsE_length]
 have h0:0 < (partsAt t fr k).length:=by
  have ha:1 ≤ (arityN t[k].kind).1:=by
   have:=h5
   rw [kindAt_is hx] at this
   rcases this with e | e | e | e | e <;> rw [e] <;> decide
  rw [hpl];omega
 have hm:(partsAt t fr k).getD ((partsAt t fr k).length - 1) 0 ∈ partsAt t fr k:=by
  rw [List.getD_eq_getElem?_getD,List.getElem?_eq_getElem (by omega)]
  exact List.getElem_mem _
 refine ⟨h0,?_⟩
 unfold openN
 rw [openF]
 rw [if_neg (by omega),if_pos h5,openF_more h hw k _ (by have:=h.parts_lt hm;omega) (h.parts_lt hm)]
theorem open_no {t:List Nd} {fr:List Nat} {k:Nat} (h:kindAt t k ≠ 23 ∧ kindAt t k ≠ 24 ∧ kindAt t k ≠ 26 ∧ kindAt t k ≠ 27 ∧ kindAt t k ≠ 28 ∧ kindAt t k ≠ 29):openN t fr k = false:=by
 unfold openN
 rw [openF]
 rw [if_neg (by omega),if_neg (by omega)]
end Go.Proofs.YtkokdafkjjcgoaaGreatDoor
