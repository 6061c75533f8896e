/- The reference: what is wrong with a struct, those ahead of i · The reference: what is wrong with structs; with a type, and · What is wrong with structs; with a type, and structs: the pr · What types a tree may have: both texts. -/
import Derived.Test.YtbbaooeioogijaaGreatDoorMg11
import Derived.Deep.RegionHeld3
import Derived.Deep.AppendLies
import Derived.Test.YtbbaooeioogijaaGreatDoorMg7
import Derived.Test.YtbbaooeioogijaaGreatDoorMg6
import Derived.Test.YtbbaooeioogijaaGreatDoorMg4
namespace Go.Proofs.YtbbaooeioogijaaGreatDoor
open Go.RowKit
def oneV (K:List Kn) (x:Sr):Int:=match addK K x with
 | .inl c=>c
 | .inr _=>0
theorem one_no {K:List Kn} {x:Sr} {c:Int} (h:addK K x = .inl c):oneV K x = c:=by unfold oneV;rw [h]
def OneEnd (K:List Kn) (x:Sr) (w:World) (e:Ending) (w':World):Prop:=e = .returned (.int .i64 (oneV K x)) ∧ Below w.heap.size w w'
theorem oneEnd_no {K:List Kn} {x:Sr} {c:Int} {w w':World} (h:addK K x = .inl c) (hb:Below w.heap.size w w'):OneEnd K x w (.returned (.int .i64 c)) w':=⟨by rw [one_no h],hb⟩
theorem oneEnd_yes {K:List Kn} {x:Sr} {k:Kn} {w w':World} (h:addK K x = .inr k) (hb:Below w.heap.size w w'):OneEnd K x w (.returned (.int .i64 0)) w':=⟨by rw [oneV,h],hb⟩
theorem srs_mems {B:Nat} {w:World} {a:Option Addr} {L:List Sr} {mv:List Value} (h:IsSrs B w a L mv):∀ (i:Nat) x v,L[i]? = some x → mv[i]? = some v → IsMems B w v x.mems:=fun i x v hx hv=>by
 obtain ⟨b,off,_,_,hr⟩:=h.at_ (fun e=>by rw [e] at hx;simp at hx)
 exact (hr i x v hx hv).2.2
theorem snoc_mems {B:Nat} {w:World} {L:List Sr} {mv:List Value} {x:Sr} {u:Value} (hl:mv.length = L.length) (h:∀ (i:Nat) x v,L[i]? = some x → mv[i]? = some v → IsMems B w v x.mems) (hx:IsMems B w u x.mems) :
 ∀ (i:Nat) y v,(L ++ [x])[i]? = some y → (mv ++ [u])[i]? = some v → IsMems B w v y.mems:=fun i y v hy hv=>by
 rcases Nat.lt_or_ge i L.length with hlt | hge
 ·rw [List.getElem?_append_left hlt] at hy
  rw [List.getElem?_append_left (by omega)] at hv
  exact h i y v hy hv
 ·obtain rfl:i = L.length:=by
   have:=(List.getElem?_eq_some_iff.1 hy).1
   simp at this;omega
  rw [List.getElem?_append_right (Nat.le_refl _),Nat.sub_self] at hy
  rw [List.getElem?_append_right (by omega),hl,Nat.sub_self] at hv
  obtain rfl:=Option.some.inj hy
  obtain rfl:=Option.some.inj hv
  exact hx
theorem find_name {K:List Kn} {L:List Sr} (hKL:K.map Kn.toSr = L) (x:ByteArray):((findK K x.data.toList).isSome = true ↔ ∃ (j:Nat) (h:j < L.length),L[j].name = x):=by
 rw [← findS_map,hKL]
 unfold findS
 rw [List.findIdx?_isSome,List.any_eq_true]
 constructor
 ·rintro ⟨y,hy,h⟩
  obtain ⟨j,hj,rfl⟩:=List.getElem_of_mem hy
  exact ⟨j,hj,toList_eq (by simpa using h)⟩
 ·rintro ⟨j,hj,h⟩
  exact ⟨L[j],List.getElem_mem hj,by simp [h]⟩
theorem seen_iff (l:List (ByteArray × ByteArray)) (i:Nat) (x:ByteArray):Lib.containsS ((l.take i).map Prod.fst) x = true ↔ ∃ (j:Nat) (h:j < l.length),j < i ∧ l[j].1 = x:=by
 rw [Lib.containsS_iff,List.mem_map]
 constructor
 ·rintro ⟨m,hm,rfl⟩
  obtain ⟨j,hj,rfl⟩:=List.getElem_of_mem hm
  rw [List.length_take] at hj
  exact ⟨j,by omega,by omega,by rw [List.getElem_take]⟩
 ·rintro ⟨j,hj,hji,rfl⟩
  refine ⟨l[j],?_,rfl⟩
  rw [List.mem_take_iff_getElem]
  exact ⟨j,by omega,rfl⟩
theorem findK_new {K:List Kn} {k:Kn} (h:(findK K k.name.data.toList).isSome = false):findK (K ++ [k]) k.name.data.toList = some K.length:=by
 rw [findK_snoc,if_pos rfl]
 cases hf:findK K k.name.data.toList with
 | none=>rfl
 | some i=>rw [hf] at h;cases h
theorem size_new (K:List Kn) (L:List Sr) (x:Sr) (n al:Nat) (hG:GoodK K) (hKL:K.map Kn.toSr = L) (h64:K.length < 64) (hm64:x.mems.length ≤ 64) (h:memsK K x.mems [] 0 1 = .inr (n,al)) (hn:isNameB x.name = true) (hno:(findK K x.name.data.toList).isSome = false)
 (a2:Option Addr) (c2:Nat) (mv2:List Value) (w:World) (hS:IsSrs w.heap.size w a2 (L ++ [x]) mv2) :
 Calls Tryz.prog 88 #[.string (tyB (.str x.name.data.toList)),.slice a2 (L ++ [x]).length c2] w fun e w'=>e = .returned (.tuple #[.int .i64 (cutN (fitN n al):Nat),.int .i64 (al:Nat)]) ∧ Below w.heap.size w w':=by
 have hG2:=goodK_snoc hG (by omega) hm64 h
 have hf:=findK_new (K:=K) (k:={ x with size:=fitN n al,align:=al }) hno
 have hl:(code (.str x.name.data.toList)).length ≤ 65536:=by
  unfold isNameB at hn
  have:x.name.size ≤ 31:=by simp at hn;omega
  rw [code];simp;omega
 have hlen:K.length < (K ++ [({ x with size:=fitN n al,align:=al }:Kn)]).length:=by simp
 have hmeas:measT (K ++ [({ x with size:=fitN n al,align:=al }:Kn)]) (.str x.name.data.toList) = (fitN n al,al):=by
  rw [meas_str hf]
  simp
 have:=refSize_ok _ (L ++ [x]) a2 c2 mv2 hG2 (by rw [List.map_append,hKL];rfl) (K.length + 1) _ (.str x.name.data.toList) (Nat.le_refl _) (by rw [Right,nameL];exact hn) hl (by
  rw [List.take_of_length_le (by simp),thereT,hf];rfl) w hS
 rw [hmeas] at this
 exact this
set_option maxHeartbeats 16000000 in
set_option maxRecDepth 100000 in
theorem refOneS_ok (K:List Kn) (L:List Sr) (a:Option Addr) (cap:Nat) (mv:List Value) (hG:GoodK K) (hF:FitK K) (hKL:K.map Kn.toSr = L) (h64:K.length < 64) (hA:a ≠ none) (x:Sr) (ms:Value) (w:World) (hS:IsSrs w.heap.size w a L mv) (hm:IsMems w.heap.size w ms x.mems) :
 Calls Tryz.prog 57 #[.agg #[.string x.name,ms],.slice a L.length cap] w (OneEnd K x w):=by
 have HS:=Hd hS
 have HMs:=Hd hm
 have hLl:(L.length:Int) ≤ 64:=by rw [← hKL,List.length_map];omega
 have HNm:=Hd (fun w=>baseName_any x.name w)
 obtain ⟨am,cm,rfl,hmr⟩:=hm
 have HMr:=Hd hmr
 have hw0:(w.alloc (.cells #[.string x.name,.slice am x.mems.length cm] 61)).heap[w.heap.size]? = some (.cells #[.string x.name,.slice am x.mems.length cm] 61 (0,0)):=heap_alloc_new _ _
 have hb0:Below w.heap.size w (w.alloc (.cells #[.string x.name,.slice am x.mems.length cm] 61)):=(Below.refl _ _).alloc (Nat.le_refl _) _
 have HW0:=Hd hw0
 have HB0:=Hd hb0
 have HKL:=Hd hKL
 have HAn:=Hd hA
 have HKl:=Hd h64
 clear hmr hS hA
 rcases hn:isNameB x.name with _ | _
 ·have hfin:=Hd (addK_form (K:=K) hn)
  rw [hn] at HNm
  clear hn hb0 hG hF hKL
  go_enter Tryz.func57,Tryz.ntmps57
  go_upto_region 1 with fail
  generalize w.alloc (.cells #[.string x.name,.slice am x.mems.length cm] 61) = w0 at *
  obtain ⟨⟨d0,d1⟩,_⟩:=two_block hw0
  go_wp2_with (go_at_call 58;(with_reducible refine (HNm.out _).mono ?_);rintro e w1 ⟨rfl,hb1⟩;have HB1:=Ht HB0 hb1;clear hb1)
  go_ret
  exact oneEnd_no hfin.out HB1.out
 have HN:=Hd hn
 rw [hn] at HNm
 have HG:=Hd hG
 have HF:=Hd hF
 have HFN:=Hd (find_name hKL x.name)
 clear hn hb0 hG hF hKL
 go_enter Tryz.func57,Tryz.ntmps57
 go_upto_region 1 with fail
 generalize w.alloc (.cells #[.string x.name,.slice am x.mems.length cm] 61) = w0 at *
 have hz0:=lt_of_heap hw0
 obtain ⟨⟨d0,d1⟩,_⟩:=two_block hw0
 go_wp2_with (go_at_call 58;(with_reducible refine (HNm.out _).mono ?_);rintro e w1 ⟨rfl,hb1⟩;have HB01:=Hd hb1;clear hb1)
 clear d0 d1 hw0
 go_loopg [5] L.length (fun g v5 wy=>∃ k:Nat,k ≤ L.length ∧ k + g = L.length ∧ v5 = .int .i64 (k:Int) ∧ Hid (∀ j (hj:j < L.length),j < k → L[j].name ≠ x.name) ∧ Hid (Below w0.heap.size w0 wy))
 case atStart=>exact ⟨0,by omega,by omega,rfl,fun j _ h=>by omega,HB01.out⟩
 case round=>
  obtain ⟨k,hk,hkg,rfl,hno,HB⟩:=hrel
  have hcell:=(HB.out.block _ hz0).trans HW0.out
  obtain ⟨⟨d0,d1⟩,_⟩:=two_block hcell
  have HBw:=Hd (HB0.out.trans (HB.out.mono HB0.out.size))
  by_cases hlt:k < L.length
  ·obtain ⟨bb,off,ha,hbl,hrow⟩:=HS.out.at_ (fun e=>by rw [e] at hlt;simp at hlt)
   subst ha
   have hlm:k < mv.length:=by rw [HS.out.len];exact hlt
   have c1:=(hrow k _ _ (List.getElem?_eq_getElem hlt) (List.getElem?_eq_getElem hlm)).1
   rw [← HBw.out.cell hbl] at c1
   by_cases h:L[k].name = x.name
   ·have hfin:=Hd (addK_twice HN.out (HFN.out.2 ⟨k,hlt,h⟩))
    have hcmp:(x.name.toList == x.name.toList) = true:=by simp
    rw [h] at c1
    clear h hrow hno hlm hcell
    go_wp2_with fail
    go_quiet (fail)
    go_wp2_with fail
    go_ret
    exact oneEnd_no hfin.out (blw_drewN HBw.out _)
   ·have HN2:=Hd (show ∀ j (hj:j < L.length),j < k + 1 → L[j].name ≠ x.name from fun j hj hjk=>by
     rcases Nat.lt_or_ge j k with h' | h'
     ·exact hno.out j hj h'
     ·obtain rfl:j = k:=by omega
      exact h)
    have hcmp:(L[k].name.toList == x.name.toList) = false:=by rw [str_eqb,decide_eq_false h]
    clear h hrow hno hlm hcell
    generalize (L[k]'hlt).name = nm at *
    go_wp2_with fail
    go_quiet (fail)
    go_wp2_with fail
    go_roundg (L.length - (k + 1))
    case measure=>omega
    case rel=>exact ⟨k + 1,by omega,by omega,by rw [Int.natCast_add];rfl,HN2.out,(HB.out.trans (Below.drewN' _ _ |>.mono HB.out.size))⟩
  ·obtain rfl:k = L.length:=by omega
   have HT:=Hd (show (findK K x.name.data.toList).isSome = false by
    rw [Bool.eq_false_iff]
    intro h
    obtain ⟨j,hj,e⟩:=HFN.out.1 h
    exact hno.out j hj hj e)
   have t3:(L.length:Int) ≤ (L.length:Int):=Int.le_refl _
   clear hno
   by_cases hlong:64 < x.mems.length
   ·have hfin:=Hd (addK_long HN.out HT.out hlong)
    have t4:(64:Int) < x.mems.length:=by omega
    clear hcell
    go_wp2_with fail
    go_ret
    exact oneEnd_no hfin.out HBw.out
   have t4:(x.mems.length:Int) ≤ 64:=by omega
   by_cases hnone:x.mems = []
   ·have hfin:=Hd (addK_none HN.out HT.out hnone)
    have t5:((x.mems.length:Int) == 0) = true:=by rw [hnone];rfl
    clear hcell hnone
    go_wp2_with fail
    go_ret
    exact oneEnd_no hfin.out HBw.out
   have t5:((x.mems.length:Int) == 0) = false:=by
    have:=List.length_pos_iff.2 hnone
    rw [beq_eq_false_iff_ne];omega
   have HMM:=Hd (fun r hr=>addK_mems HN.out HT.out hlong hnone (r:=r) hr)
   clear hcell hnone hlong
   go_wp2_with fail
   clear d0 d1 t5
   have HBr:=Hd HB.out
   go_loopg [6] x.mems.length (fun g v6 wy=>∃ (i n al:Nat),i ≤ x.mems.length ∧ i + g = x.mems.length ∧ v6 = .int .i64 (i:Int) ∧ Hid (memsK K x.mems [] 0 1 = memsK K (x.mems.drop i) ((x.mems.take i).map Prod.fst) n al) ∧ Hid (Below w0.heap.size w0 wy))
   case atStart=>exact ⟨0,0,1,Nat.zero_le _,by omega,rfl,rfl,HBr.out⟩
   case round=>
    obtain ⟨i,n,al,hi,hig,rfl,hR,HB⟩:=hrel
    have hcell:=(HB.out.block _ hz0).trans HW0.out
    obtain ⟨⟨d0,d1⟩,_⟩:=two_block hcell
    have HBw:=Hd (HB0.out.trans (HB.out.mono HB0.out.size))
    by_cases hil:i < x.mems.length
    ·obtain ⟨mb,moff,ha,hmb,hmrow⟩:=HMr.out (fun e=>by rw [e] at hil;simp at hil)
     subst ha
     have HMw:=Hd hmrow
     obtain ⟨c1,c2⟩:=hmrow i _ (List.getElem?_eq_getElem hil)
     rw [← HBw.out.cell hmb] at c1 c2
     have hrest:=hR.out
     rw [drop_at _ i hil] at hrest
     have hnext:=take_at x.mems i hil
     generalize x.mems[i]'hil = mi at *
     obtain ⟨mn,mt⟩:=mi
     simp only at c1 c2
     have HRest:=Hd hrest
     have HNext:=Hd hnext
     have HSn:=Hd (seen_iff x.mems i mn)
     have HNm2:=Hd (fun w=>baseName_any mn w)
     clear hmrow hrest hnext hR
     go_upto_region 16 with fail
     have hm2:(wr.alloc (.cells #[.string mn,.string mt] 82)).heap[wr.heap.size]? = some (.cells #[.string mn,.string mt] 82 (0,0)):=heap_alloc_new _ _
     have hb2:Below wr.heap.size wr (wr.alloc (.cells #[.string mn,.string mt] 82)):=(Below.refl _ _).alloc (Nat.le_refl _) _
     generalize wr.alloc (.cells #[.string mn,.string mt] 82) = w2 at *
     have HM2:=Hd hm2
     have hbr2:=HB.out.trans (hb2.mono HB.out.size)
     have HB2:=Hd hbr2
     have hcell2:=(hbr2.block _ hz0).trans HW0.out
     have HC2:=Hd hcell2
     have HBW2:=Ht HB0 hbr2
     have hz2:=lt_of_heap hm2
     clear d0 d1
     obtain ⟨⟨d0,d1⟩,_⟩:=two_block hcell2
     obtain ⟨⟨m0,m1⟩,_⟩:=two_block hm2
     clear hm2 hb2 hbr2 c1 c2 hcell hcell2
     rcases hnm:isNameB mn with _ | _
     ·rw [hnm] at HNm2
      have hfin:=Hd ((HMM.out _ HRest.out).1 _ (mem_form hnm))
      clear hnm
      go_wp2_with (go_at_call 58;(with_reducible refine (HNm2.out _).mono ?_);rintro e w3 ⟨rfl,hb3⟩;have HB3:=Ht HBW2 hb3;clear hb3)
      go_ret
      exact oneEnd_no hfin.out HB3.out
     rw [hnm] at HNm2
     have HNt:=Hd hnm
     clear hnm
     go_wp2_with (go_at_call 58;(with_reducible refine (HNm2.out _).mono ?_);rintro e w3 ⟨rfl,hb3⟩;have HB3:=Ht HB2 hb3;have HM3:=Hd ((hb3.block _ hz2).trans HM2.out);clear hb3)
     have hz3:=lt_of_heap HM3.out
     have HBW3:=Hd (HB0.out.trans (HB3.out.mono HB0.out.size))
     have hil2:(i:Int) ≤ (x.mems.length:Int):=by omega
     clear d0 d1 m0 m1
     go_loopg [8] i (fun g v8 wy=>∃ k:Nat,k ≤ i ∧ k + g = i ∧ v8 = .int .i64 (k:Int) ∧ Hid (∀ j (hj:j < x.mems.length),j < k → x.mems[j].1 ≠ mn) ∧ Hid (Below w3.heap.size w3 wy))
     case atStart=>exact ⟨0,by omega,by omega,rfl,fun j _ h=>by omega,Below.refl _ _⟩
     case round=>
      obtain ⟨k,hk,hkg,rfl,hno,HB4⟩:=hrel
      have HBW4:=Hd (HBW3.out.trans (HB4.out.mono HBW3.out.size))
      have hcell4:=(HB4.out.block _ (lt_of_heap ((HB3.out.block _ hz0).trans HW0.out))).trans ((HB3.out.block _ hz0).trans HW0.out)
      obtain ⟨⟨d0,d1⟩,_⟩:=two_block hcell4
      have hm4:=(HB4.out.block _ hz3).trans HM3.out
      have HM4:=Hd hm4
      obtain ⟨⟨m0,m1⟩,_⟩:=two_block hm4
      clear hcell4 hm4
      by_cases hki:k < i
      ·have hkl:k < x.mems.length:=by omega
       have c1:=(HMw.out k _ (List.getElem?_eq_getElem hkl)).1
       rw [← HBW4.out.cell hmb] at c1
       have hki2:(k:Int) < (x.mems.length:Int):=by omega
       by_cases h:(x.mems[k]'hkl).1 = mn
       ·have hfin:=Hd ((HMM.out _ HRest.out).1 _ (mem_twice HNt.out (HSn.out.2 ⟨k,hkl,hki,h⟩)))
        have hcmp:(mn.toList == mn.toList) = true:=by simp
        rw [h] at c1
        clear h hno
        go_wp2_with fail
        go_quiet (fail)
        go_wp2_with fail
        go_ret
        exact oneEnd_no hfin.out (blw_drewN HBW4.out _)
       ·have HN2:=Hd (show ∀ j (hj:j < x.mems.length),j < k + 1 → x.mems[j].1 ≠ mn from fun j hj hjk=>by
         rcases Nat.lt_or_ge j k with h' | h'
         ·exact hno.out j hj h'
         ·obtain rfl:j = k:=by omega
          exact h)
        have hcmp:((x.mems[k]'hkl).1.toList == mn.toList) = false:=by rw [str_eqb,decide_eq_false h]
        clear h hno
        generalize (x.mems[k]'hkl).1 = nm at *
        go_wp2_with fail
        go_quiet (fail)
        go_wp2_with fail
        go_roundg (i - (k + 1))
        case measure=>omega
        case rel=>exact ⟨k + 1,by omega,by omega,by rw [Int.natCast_add];rfl,HN2.out,(HB4.out.trans (Below.drewN' _ _ |>.mono HB4.out.size))⟩
      ·obtain rfl:k = i:=by omega
       have hse:Lib.containsS ((x.mems.take k).map Prod.fst) mn = false:=by
        rw [Bool.eq_false_iff]
        intro h
        obtain ⟨j,hj,hjk,e⟩:=HSn.out.1 h
        exact hno.out j hj hjk e
       have HSe:=Hd hse
       have HCk:=Hd (refCheckT_ok K L a cap mv HG.out HF.out HKL.out mt wr ((HS.out.below HBW4.out).mono HBW4.out.size))
       clear hno hse
       by_cases hc:checkS K mt = 0
       ·obtain ⟨t,ht⟩:∃ t,tyS mt = some t:=by
         cases ht:tyS mt with
         | none=>rw [checkS_none ht] at hc;simp at hc
         | some t=>exact ⟨t,rfl⟩
        obtain ⟨hmt,hrt,hlt'⟩:=tyS_some.1 ht
        have HO:=Hd fun w5=>refObject_ok t hrt w5
        rw [← hmt] at HO
        rcases hob:objectT t with _ | _
        ·rw [hob] at HO
         have hfin:=Hd ((HMM.out _ HRest.out).1 _ (mem_object HNt.out HSe.out ht hc hob))
         rw [hc] at HCk
         clear hmt hrt hlt' ht hc hob
         go_wp2_with (go_at_call 86;(with_reducible refine HCk.out.mono ?_);rintro e w5 ⟨rfl,hb5⟩;have hm5:=(hb5.block _ (lt_of_heap HM4.out)).trans HM4.out;obtain ⟨⟨p0,p1⟩,_⟩:=two_block hm5;have HB5:=Ht HBW4 hb5;clear hb5 hm5)
         go_wp2_with (go_at_call 87;(with_reducible refine (HO.out _).mono ?_);rintro e w6 ⟨rfl,hw6⟩;subst w6)
         go_ret
         exact oneEnd_no hfin.out HB5.out
        ·rw [hob] at HO
         have HMN:=Hd (mem_next (K:=K) (m:=(mn,mt)) (l:=x.mems.drop (k + 1)) (n:=n) (a:=al) HNt.out HSe.out ht hc hob)
         rw [hc] at HCk
         clear hmt hrt hlt' ht hc hob
         go_wp2_with (go_at_call 86;(with_reducible refine HCk.out.mono ?_);rintro e w5 ⟨rfl,hb5⟩;have hm5:=(hb5.block _ (lt_of_heap HM4.out)).trans HM4.out;obtain ⟨⟨p0,p1⟩,_⟩:=two_block hm5;have HB5:=Ht HB4 hb5;clear hb5 hm5)
         go_wp2_with (go_at_call 87;(with_reducible refine (HO.out _).mono ?_);rintro e w6 ⟨rfl,hw6⟩;subst w6)
         go_roundg (x.mems.length - (k + 1))
         case measure=>omega
         case rel=>exact ⟨k + 1,_,_,by omega,by omega,by rw [Int.natCast_add];rfl,by rw [HNext.out,List.map_append,HRest.out,HMN.out];rfl,HB3.out.trans (HB5.out.mono HB3.out.size)⟩
       ·have hfin:=Hd ((HMM.out _ HRest.out).1 _ (mem_check HNt.out HSe.out hc))
        have t3:(checkS K mt != 0) = true:=by simp [hc]
        clear hc
        generalize checkS K mt = c at *
        go_wp2_with (go_at_call 86;(with_reducible refine HCk.out.mono ?_);rintro e w5 ⟨rfl,hb5⟩;have HB5:=Ht HBW4 hb5;clear hb5)
        go_ret
        exact oneEnd_no hfin.out HB5.out
    ·obtain rfl:i = x.mems.length:=by omega
     have t6:(x.mems.length:Int) ≤ (x.mems.length:Int):=Int.le_refl _
     have HR:=Hd (show memsK K x.mems [] 0 1 = .inr (n,al) by rw [hR.out,List.drop_length,memsK])
     clear hR
     clear hcell
     go_upto_region 28 with fail
     cases a with
     | none=>exact absurd rfl HAn.out
     | some ad=>
     have HSp:=Hd (fun a2 c2 mv2 w5=>size_new K L x n al HG.out HKL.out HKl.out (by omega) HR.out HN.out HT.out a2 c2 mv2 w5)
     have hxs:x.name.size ≤ 31:=by
      have:=HN.out
      unfold isNameB at this
      simp at this;omega
     have hadd2:=add_namedT (⟨#[83]⟩ ++ x.name) ⟨#[59]⟩ (tyB (.str x.name.data.toList)) (tyB_eq (by simp [code])) (by rw [ByteArray.size_append];show 1 + _ + 1 ≤ _;omega)
     have hadd1:=add_namedT ⟨#[83]⟩ x.name _ rfl (by show 1 + _ ≤ _;omega)
     generalize (⟨#[83]⟩ ++ x.name:ByteArray) = y1 at *
     generalize tyB (.str x.name.data.toList) = y2 at *
     obtain ⟨i0,hi,hz0',hz1,hz2⟩:=info_parts infoSt
     have HI0:=Hd (And.intro hi (And.intro hz0' (And.intro hz1 hz2)))
     clear hi hz0' hz1 hz2
     have hzw:w.heap.size < wr.heap.size:=lt_of_heap ((HB.out.block _ hz0).trans HW0.out)
     have HCl:=Hd (show ∀ w',Below wr.heap.size wr w' → w'.cell? ⟨w.heap.size,0,none⟩ = some (.string x.name) ∧ w'.cell? ⟨w.heap.size,1,none⟩ = some (.slice am x.mems.length cm) from fun w' hb=>⟨by rw [hb.cell hzw];exact d0,by rw [hb.cell hzw];exact d1⟩)
     have HSr:=Hd (show ∀ w',Below wr.heap.size wr w' → IsSrs w.heap.size w' (some ad) L mv from fun w' hb=>HS.out.below (HBw.out.trans (hb.mono HBw.out.size)))
     have HMm:=Hd (show ∀ w',Below wr.heap.size wr w' → IsMems w.heap.size w' (.slice am x.mems.length cm) x.mems from fun w' hb=>HMs.out.below (HBw.out.trans (hb.mono HBw.out.size)) (Nat.le_refl _))
     have HLn:=Hd (show (flat2 (pairS L mv)).length = L.length * 2 by rw [flat2_length,pairS_length HS.out.len])
     have HOne:=Hd (srs_one HS.out)
     have hLn:L.length ≤ 64:=by omega
     have h631:0 + L.length ≤ maxLen:=by unfold maxLen;omega
     have h632:L.length + 1 ≤ maxLen:=by unfold maxLen;omega
     have h641:(0 + L.length) * 40 ≤ 140737488355328:=by omega
     have h642:(L.length + 1) * 40 ≤ 140737488355328:=by omega
     have HNums:=Hd (And.intro h631 (And.intro h632 (And.intro h641 h642)))
     clear h631 h632 h641 h642 hxs
     have HOwn:=Hd (show ∀ w2 v2,Below wr.heap.size wr w2 → w2.ownsRow wr.heap.size 61 2 v2 (L.length + 1) (flat2 (pairS (L ++ [x]) (mv ++ [.slice am x.mems.length cm]))) → ∃ a2 c2,v2 = .slice a2 (L ++ [x]).length c2 ∧ IsSrs w2.heap.size w2 a2 (L ++ [x]) (mv ++ [.slice am x.mems.length cm]) from fun w2 v2 hb h=>by
      have hb0:=HBw.out.trans (hb.mono HBw.out.size)
      exact own_srs h (by simp) (by simp [HS.out.len]) (snoc_mems HS.out.len (fun i y v hy hv=>(srs_mems (HSr.out w2 hb) i y v hy hv).mono hb0.size) ((HMm.out w2 hb).mono hb0.size)) (fun y hy=>by
       rcases List.mem_append.1 hy with hy | hy
       ·exact HS.out.names y hy
       ·obtain rfl:=List.mem_singleton.1 hy
        exact name_short HN.out))
     have hq:=Hd (show ((65536:Int) < (cutN (fitN n al):Nat) ∧ Hid (addK K x = .inl 3)) ∨ (((cutN (fitN n al):Nat):Int) ≤ 65536 ∧ Hid (addK K x = .inr { x with size:=fitN n al,align:=al })) by
      have h1:=(HMM.out _ HR.out).2 n al rfl
      by_cases hq:65536 < fitN n al
      ·rw [if_pos hq] at h1
       exact .inl ⟨by unfold cutN;omega,h1⟩
      ·rw [if_neg hq] at h1
       exact .inr ⟨by unfold cutN;omega,h1⟩)
     generalize cutN (fitN n al) = cn at *
     go_region_held3 (fun w'=>w'.cell? ⟨w.heap.size,0,none⟩ = some (.string x.name) ∧ w'.cell? ⟨w.heap.size,1,none⟩ = some (.slice am x.mems.length cm)) (first | (constructor <;> assumption) | exact HCl.out _ ((Below.refl _ _).drew) | exact HCl.out _ (blw1 _ _) | exact HCl.out _ (blw2 _ _ _) | exact HCl.out _ (HB1.out.alloc HB1.out.size _))
      (first
        | (refine step_append_own (by rfl) _ _ _ (by rfl) wr.heap.size 61 i0 (.agg #[.string ⟨#[]⟩,.slice none 0 0]) 2 40 Tryz.underlying22 HI0.out.1 HI0.out.2.1 HI0.out.2.2.1 HI0.out.2.2.2 (by rfl) (by decide) _ 0 [] (by rfl) (own_nil ?_ ?_) ad L.length cap (flat2 (pairS L mv)) (by rfl) HLn.out (srs_news (HSr.out _ ?_)) HOne.out HNums.out.1 HNums.out.2.2.1 ?_ ?_;(next=>first | exact heap_alloc_new _ _ | exact heap_new1 _ _ _ | exact heap_new2 _ _ _);(next=>first | exact Nat.le_refl _ | exact Nat.le_succ _);(next=>first | exact blw1 _ _ | exact blw2 _ _ _);(next=>first | exact (blw1 _ _).size | exact (blw2 _ _ _).size);intro v1 w1 hown1 hgrow1 _;have HO1:=Hd (show w1.ownsRow wr.heap.size 61 2 v1 L.length (flat2 (pairS L mv)) by simpa using hown1);have HG1:=Hd hgrow1;have HB1:=Hd (show Below wr.heap.size wr w1 by (refine Below.grown ?_ hgrow1 ?_ ?_;(next=>first | exact blw1 _ _ | exact blw2 _ _ _);(next=>first | exact (blw1 _ _).size | exact (blw2 _ _ _).size);(next=>intro q hq;simp [Value.ownBlock] at hq;omega)));clear hown1 hgrow1;obtain ⟨k0,k1⟩:=HCl.out _ HB1.out)
        | (refine step_append_own (by rfl) _ _ _ (by rfl) wr.heap.size 61 i0 (.agg #[.string ⟨#[]⟩,.slice none 0 0]) 2 40 Tryz.underlying22 HI0.out.1 HI0.out.2.1 HI0.out.2.2.1 HI0.out.2.2.2 (by rfl) (by decide) v1 L.length (flat2 (pairS L mv)) (by rfl) ?_ ⟨w1.heap.size,0,none⟩ 1 1 [.string x.name,.slice am x.mems.length cm] (by rfl) (by rfl) (news2 (T:=61) ?_) ?_ HNums.out.2.1 HNums.out.2.2.2 ?_ ?_;(next=>exact HO1.out.alloc _);(next=>exact heap_alloc_new _ _);(next=>simp [Value.oneCell']);(next=>have:=HB1.out.size;simp;omega);intro v2 w2 hown2 hgrow2 _;have HB2:=Hd (show Below wr.heap.size wr w2 by (refine Below.grown ?_ hgrow2 ?_ ?_;(next=>first | exact HB1.out | exact HB1.out.alloc HB1.out.size _);(next=>have:=HB1.out.size;simp;try omega);(next=>intro q hq;exact (HO1.out.lt q hq).1)));have HO2:=Hd (show w2.ownsRow wr.heap.size 61 2 v2 (L.length + 1) (flat2 (pairS (L ++ [x]) (mv ++ [.slice am x.mems.length cm]))) by rw [pairS_snoc HS.out.len,flat2_append];exact hown2);clear hown2 hgrow2;obtain ⟨k2,k3⟩:=HCl.out _ HB2.out)
        | (refine step_append_own (by rfl) _ _ _ (by rfl) wr.heap.size 61 i0 (.agg #[.string ⟨#[]⟩,.slice none 0 0]) 2 40 Tryz.underlying22 HI0.out.1 HI0.out.2.1 HI0.out.2.2.1 HI0.out.2.2.2 (by rfl) (by decide) v1 L.length (flat2 (pairS L mv)) (by rfl) ?_ ⟨wr.heap.size + 1,0,none⟩ 1 1 [.string x.name,.slice am x.mems.length cm] (by rfl) (by rfl) (news2 (T:=61) ?_) ?_ HNums.out.2.1 HNums.out.2.2.2 ?_ ?_;(next=>exact HO1.out);(next=>exact (HG1.out.block _ (by first | (simp;done) | (simp;omega)) (by simp [Value.ownBlock])).trans (heap_new2 _ _ _));(next=>simp [Value.oneCell']);(next=>have:=HB1.out.size;simp;omega);intro v2 w2 hown2 hgrow2 _;have HB2:=Hd (show Below wr.heap.size wr w2 by (refine Below.grown ?_ hgrow2 ?_ ?_;(next=>first | exact HB1.out | exact HB1.out.alloc HB1.out.size _);(next=>have:=HB1.out.size;simp;try omega);(next=>intro q hq;exact (HO1.out.lt q hq).1)));have HO2:=Hd (show w2.ownsRow wr.heap.size 61 2 v2 (L.length + 1) (flat2 (pairS (L ++ [x]) (mv ++ [.slice am x.mems.length cm]))) by rw [pairS_snoc HS.out.len,flat2_append];exact hown2);clear hown2 hgrow2;obtain ⟨k2,k3⟩:=HCl.out _ HB2.out)
        | (refine step_append_own (by rfl) _ _ _ (by rfl) wr.heap.size 61 i0 (.agg #[.string ⟨#[]⟩,.slice none 0 0]) 2 40 Tryz.underlying22 HI0.out.1 HI0.out.2.1 HI0.out.2.2.1 HI0.out.2.2.2 (by rfl) (by decide) v1 L.length (flat2 (pairS L mv)) (by rfl) ?_ ⟨wr.heap.size,0,none⟩ 1 1 [.string x.name,.slice am x.mems.length cm] (by rfl) (by rfl) (news2 (T:=61) ?_) ?_ HNums.out.2.1 HNums.out.2.2.2 ?_ ?_;(next=>exact HO1.out);(next=>exact (HG1.out.block _ (by first | (simp;done) | (simp;omega)) (by simp [Value.ownBlock])).trans (heap_new1 _ _ _));(next=>simp [Value.oneCell']);(next=>have:=HB1.out.size;simp;omega);intro v2 w2 hown2 hgrow2 _;have HB2:=Hd (show Below wr.heap.size wr w2 by (refine Below.grown ?_ hgrow2 ?_ ?_;(next=>first | exact HB1.out | exact HB1.out.alloc HB1.out.size _);(next=>have:=HB1.out.size;simp;try omega);(next=>intro q hq;exact (HO1.out.lt q hq).1)));have HO2:=Hd (show w2.ownsRow wr.heap.size 61 2 v2 (L.length + 1) (flat2 (pairS (L ++ [x]) (mv ++ [.slice am x.mems.length cm]))) by rw [pairS_snoc HS.out.len,flat2_append];exact hown2);clear hown2 hgrow2;obtain ⟨k2,k3⟩:=HCl.out _ HB2.out)
        | (go_at_call 88;obtain ⟨a2,c2,rfl,hS2⟩:=HOwn.out _ _ HB2.out HO2.out;have HC2:=Hd (HSp.out a2 c2 _ _ hS2);clear hS2;(with_reducible refine HC2.out.mono ?_);rintro e w5 ⟨rfl,hb5⟩;have HB5:=Ht HB2 hb5;clear hb5;obtain ⟨k4,k5⟩:=HCl.out _ HB5.out))
     all_goals
      have HBE:=Hd (HBw.out.trans (HB5.out.mono HBw.out.size))
      rcases hq.out with ⟨t4,hfin⟩ | ⟨t4,hfin⟩
      ·go_wp2_with fail
       go_ret
       exact oneEnd_no hfin.out HBE.out
      ·go_wp2_with fail
       go_ret
       exact oneEnd_yes hfin.out HBE.out
end Go.Proofs.YtbbaooeioogijaaGreatDoor
namespace Go.Proofs.YtbbaooeioogijaaGreatDoor
open Go.RowKit
def faultN (L:List Sr):Int × Int:=match learnK L with
 | .inl (i,c)=>(((i:Nat):Int),c)
 | .inr _=>(0,0)
theorem faultN_bad {L:List Sr} {i:Nat} {c:Int} (h:learnK L = .inl (i,c)):faultN L = (((i:Nat):Int),c):=by unfold faultN;rw [h]
theorem faultN_ok {L:List Sr} {K:List Kn} (h:learnK L = .inr K):faultN L = (0,0):=by unfold faultN;rw [h]
def StructsEnd (L:List Sr) (w:World) (e:Ending) (w':World):Prop:=e = .returned (.agg #[.int .i64 (faultN L).1,.int .i64 (faultN L).2]) ∧ Below w.heap.size w w'
theorem structsEnd {L:List Sr} {x y:Int} {w w':World} (h:faultN L = (x,y)) (hb:Below w.heap.size w w'):StructsEnd L w (.returned (.agg #[.int .i64 x,.int .i64 y])) w':=⟨by rw [h],hb⟩
structure StInv (w1:World) (L:List Sr) (wy:World) (k:Nat) (K:List Kn):Prop where
 rest:learnF [] L = learnF K (L.drop k)
 knows:KnowsK K (L.take k)
 below:Below w1.heap.size w1 wy
theorem StInv.len {w1 wy:World} {L:List Sr} {k:Nat} {K:List Kn} (h:StInv w1 L wy k K) (hk:k ≤ L.length):K.length = k:=by
 have:=congrArg List.length h.knows.list
 rw [List.length_map,List.length_take] at this;omega
theorem IsSrs.take {B:Nat} {w:World} {a:Option Addr} {L:List Sr} {mv:List Value} (h:IsSrs B w a L mv) (k:Nat):IsSrs B w a (L.take k) (mv.take k):=by
 refine ⟨by rw [List.length_take,List.length_take,h.len],fun hn=>?_,fun x hx=>h.names x (List.mem_of_mem_take hx)⟩
 obtain ⟨b,off,e,hlt,hr⟩:=h.at_ (fun e=>hn (by rw [e];simp))
 refine ⟨b,off,e,hlt,fun i x v hx hv=>hr i x v ?_ ?_⟩
 ·rw [List.getElem?_take] at hx;split at hx;exact hx;cases hx
 ·rw [List.getElem?_take] at hv;split at hv;exact hv;cases hv
set_option maxRecDepth 100000 in
set_option maxHeartbeats 4000000 in
theorem refStructs_ok (a:Option Addr) (cap:Nat) (L:List Sr) (mv:List Value) (w:World) (hS:IsSrs w.heap.size w a L mv) (hcap:L.length ≤ cap) (hcm:cap ≤ maxLen) :
 Calls Tryz.prog 37 #[.slice a L.length cap] w (StructsEnd L w):=by
 have HS:=Hd hS
 have hci:(cap:Int) ≤ 9223372036854775807:=by unfold maxLen at hcm;omega
 have hLl:(L.length:Int) ≤ (cap:Int):=by omega
 clear hS
 have hat:(w.alloc (.cells #[.int .i64 0,.int .i64 0] 32)).heap[w.heap.size]? = some (.cells #[.int .i64 0,.int .i64 0] 32 (0,0)):=heap_alloc_new _ _
 have hb1:Below w.heap.size w (w.alloc (.cells #[.int .i64 0,.int .i64 0] 32)):=(Below.refl _ _).alloc (Nat.le_refl _) _
 go_enter Tryz.func37,Tryz.ntmps37
 go_upto_region 1 with fail
 generalize w.alloc (.cells #[.int .i64 0,.int .i64 0] 32) = w1 at *
 have HAt:=Hd hat
 have HB1:=Hd hb1
 have hz1:=lt_of_heap hat
 by_cases h64:64 < L.length
 ·have hfin:=Hd (faultN_bad (show learnK L = .inl (0,3) by unfold learnK;rw [if_pos h64]))
  have t1:(64:Int) < L.length:=by omega
  obtain ⟨⟨d0,d1⟩,fd⟩:=two_block hat
  have fd0:=fd 0
  have fd1:=fd 1
  clear fd hat hb1 h64
  go_wp2_with fail
  exact bodyPost_ret (v:=.agg #[.int .i64 ((0:Nat):Int),.int .i64 3]) (by simp [results,Tryz.results37,go_sem,d0,d1]) rfl (structsEnd hfin.out (set_fault HB1.out _ _))
 have t1:(L.length:Int) ≤ 64:=by omega
 have hL:=Hd (show learnK L = learnF [] L by unfold learnK;rw [if_neg h64])
 clear hat hb1
 go_wp2_with fail
 go_loopg [3] L.length (fun g v3 wy=>∃ (k:Nat) (K:List Kn),k ≤ L.length ∧ k + g = L.length ∧ v3 = .int .i64 (k:Int) ∧ Hid (StInv w1 L wy k K))
 case atStart=>exact ⟨0,[],by omega,by omega,rfl,⟨rfl,knows_nil,Below.refl _ _⟩⟩
 case round=>
  obtain ⟨k,K,hk,hkg,rfl,HI⟩:=hrel
  have HBw:=Hd (HB1.out.trans (HI.out.below.mono HB1.out.size))
  have hat:wr.heap[w.heap.size]? = some (.cells #[.int .i64 0,.int .i64 0] 32 (0,0)):=(HI.out.below.block _ hz1).trans HAt.out
  have HAr:=Hd hat
  by_cases hlt:k < L.length
  ·obtain ⟨bb,off,ha,hbl,hrow⟩:=HS.out.at_ (fun e=>by rw [e] at hlt;simp at hlt)
   have hlm:k < mv.length:=by rw [HS.out.len];exact hlt
   obtain ⟨e1,e2,hms⟩:=hrow k _ _ (List.getElem?_eq_getElem hlt) (List.getElem?_eq_getElem hlm)
   rw [← HBw.out.cell hbl] at e1 e2
   have hx:=drop_at L k hlt
   have htk:=take_at L k hlt
   generalize L[k]'hlt = x at *
   generalize mv[k]'hlm = v at *
   have HX:=Hd hx
   have HTk:=Hd htk
   have HC:=Hd (show ∀ w',Below wr.heap.size wr w' → Calls Tryz.prog 57 #[.agg #[.string x.name,v],.slice a k cap] w' (OneEnd K x w') from fun w' hb=>by
    have hb0:=HBw.out.trans (hb.mono HBw.out.size)
    have:=refOneS_ok K (L.take k) a cap (mv.take k) HI.out.knows.good HI.out.knows.fit HI.out.knows.list (by have:=HI.out.len hk;omega) (by rw [ha];simp) x v w' (((HS.out.below hb0).take k).mono hb0.size) ((hms.below hb0 (Nat.le_refl _)).mono hb0.size)
    rw [List.length_take,Nat.min_eq_left hk] at this
    exact this)
   have hkc:(k:Int) ≤ (cap:Int):=by omega
   have hkl:(k:Int) < (L.length:Int):=by omega
   subst ha
   clear hx htk hrow hlm hms hat
   have HEnd:=Hd (show ∀ w3,Below wr.heap.size wr w3 → Below w.heap.size w w3 from fun w3 hb=>HBw.out.trans (hb.mono HBw.out.size))
   rcases had:addK K x with c | k'
   ·have hfin:=Hd (faultN_bad (show learnK L = .inl (k,c) by rw [hL.out,HI.out.rest,HX.out,learnF,had];simp only;rw [HI.out.len hk]))
    have hov:=one_no had
    have hc0:=addK_ne had
    have HCw:=Hd (show ∀ w',Below wr.heap.size wr w' → Calls Tryz.prog 57 #[.agg #[.string x.name,v],.slice (some ⟨bb,off,none⟩) k cap] w' (fun e w''=>e = .returned (.int .i64 c) ∧ Below w'.heap.size w' w'') from fun w' hb=>(HC.out w' hb).mono fun e w'' h=>by rw [← hov];exact h)
    have t4:(c != 0) = true:=by simp [hc0]
    clear hov hc0 had
    go_wp2_with fail
    go_region_held3 (fun w'=>w'.cell? ⟨bb,off + k * 2,none⟩ = some (.string x.name) ∧ w'.cell? ⟨bb,off + k * 2 + 1,none⟩ = some v) (first | (constructor <;> assumption) | go_keep)
     ((go_at_call 57;(with_reducible refine (HCw.out _ ((Below.refl _ _).drew)).mono ?_);rintro e w3 ⟨rfl,hb3⟩;have hb4:=((Below.refl wr.heap.size wr).drew).trans hb3;have HB3:=Hd hb4;have k0:=(hb4.cell (p:=⟨bb,off + k * 2,none⟩) (Nat.lt_of_lt_of_le hbl HBw.out.size)).trans e1;have k1:=(hb4.cell (p:=⟨bb,off + k * 2 + 1,none⟩) (Nat.lt_of_lt_of_le hbl HBw.out.size)).trans e2;clear hb3 hb4))
    have h31:=(HB3.out.block _ (lt_of_heap HAr.out)).trans HAr.out
    obtain ⟨⟨d0,d1⟩,fd⟩:=two_block h31
    have fd0:=fd 0
    have fd1:=fd 1
    clear fd h31
    go_wp2_with fail
    exact bodyPost_ret (v:=.agg #[.int .i64 (k:Int),.int .i64 c]) (by simp [results,Tryz.results37,go_sem,d0,d1]) rfl (structsEnd hfin.out (set_fault (HEnd.out _ HB3.out) _ _))
   ·have hov:oneV K x = 0:=by rw [oneV,had]
    have HN:=Hd (show ∀ w3,Below wr.heap.size wr w3 → StInv w1 L w3 (k + 1) (K ++ [k']) from fun w3 hb=>⟨by rw [HI.out.rest,HX.out,learnF,had],by rw [HTk.out];exact knows_snoc HI.out.knows (by have:=HI.out.len hk;omega) had,HI.out.below.trans (hb.mono HI.out.below.size)⟩)
    have HCw:=Hd (show ∀ w',Below wr.heap.size wr w' → Calls Tryz.prog 57 #[.agg #[.string x.name,v],.slice (some ⟨bb,off,none⟩) k cap] w' (fun e w''=>e = .returned (.int .i64 0) ∧ Below w'.heap.size w' w'') from fun w' hb=>(HC.out w' hb).mono fun e w'' h=>by rw [← hov];exact h)
    clear hov had
    go_wp2_with fail
    go_region_held3 (fun w'=>w'.cell? ⟨bb,off + k * 2,none⟩ = some (.string x.name) ∧ w'.cell? ⟨bb,off + k * 2 + 1,none⟩ = some v) (first | (constructor <;> assumption) | go_keep)
     ((go_at_call 57;(with_reducible refine (HCw.out _ ((Below.refl _ _).drew)).mono ?_);rintro e w3 ⟨rfl,hb3⟩;have hb4:=((Below.refl wr.heap.size wr).drew).trans hb3;have HB3:=Hd hb4;have k0:=(hb4.cell (p:=⟨bb,off + k * 2,none⟩) (Nat.lt_of_lt_of_le hbl HBw.out.size)).trans e1;have k1:=(hb4.cell (p:=⟨bb,off + k * 2 + 1,none⟩) (Nat.lt_of_lt_of_le hbl HBw.out.size)).trans e2;clear hb3 hb4))
    go_wp2_with fail
    go_roundg (L.length - (k + 1))
    case measure=>omega
    case rel=>exact ⟨k + 1,K ++ [k'],by omega,by omega,by rw [Int.natCast_add];rfl,HN.out _ HB3.out⟩
  ·obtain rfl:k = L.length:=by omega
   have t3:(L.length:Int) ≤ (L.length:Int):=Int.le_refl _
   have hfin:=Hd (faultN_ok (show learnK L = .inr K by rw [hL.out,HI.out.rest,List.drop_length,learnF]))
   obtain ⟨⟨d0,d1⟩,fd⟩:=two_block hat
   have fd0:=fd 0
   have fd1:=fd 1
   clear fd hat
   go_wp2_with fail
   exact bodyPost_ret (v:=.agg #[.int .i64 0,.int .i64 0]) (by simp [results,Tryz.results37,go_sem,d0,d1]) rfl (structsEnd hfin.out (set_fault HBw.out _ _))
end Go.Proofs.YtbbaooeioogijaaGreatDoor
namespace Go.Proofs.YtbbaooeioogijaaGreatDoor
open Go.RowKit
def checkN (L:List Sr) (s:ByteArray):Int:=match learnK L with
 | .inl (_,c)=>c
 | .inr K=>checkS K s
theorem checkN_bad {L:List Sr} {s:ByteArray} {i:Nat} {c:Int} (h:learnK L = .inl (i,c)):checkN L s = c:=by unfold checkN;rw [h]
theorem checkN_ok {L:List Sr} {s:ByteArray} {K:List Kn} (h:learnK L = .inr K):checkN L s = checkS K s:=by unfold checkN;rw [h]
theorem learnF_ne:∀ (l:List Sr) (K:List Kn) {i:Nat} {c:Int},learnF K l = .inl (i,c) → c ≠ 0
 | [],_,_,_,h=>by rw [learnF] at h;cases h
 | x :: l,K,i,c,h=>by
   rw [learnF] at h
   split at h
   ·rename_i e he
    have:=Sum.inl.inj h
    have h2:e = c:=(Prod.mk.inj this).2
    subst h2
    exact addK_ne he
   ·exact learnF_ne l _ h
theorem learnK_ne {L:List Sr} {i:Nat} {c:Int} (h:learnK L = .inl (i,c)):c ≠ 0:=by
 unfold learnK at h
 split at h
 ·have h2:(3:Int) = c:=(Prod.mk.inj (Sum.inl.inj h)).2
  subst h2;decide
 ·exact learnF_ne _ _ h
theorem fault_blk (w:World) (x y:Value):(w.alloc (.cells #[x,y] 32)).heap[w.heap.size]? = some (.cells #[x,y] 32 (0,0)):=heap_alloc_new _ _
set_option maxRecDepth 100000 in
set_option maxHeartbeats 4000000 in
theorem refCheckAll_ok (s:ByteArray) (a:Option Addr) (cap:Nat) (L:List Sr) (mv:List Value) (w:World) (hS:IsSrs w.heap.size w a L mv) (hcap:L.length ≤ cap) (hcm:cap ≤ maxLen) :
 Calls Tryz.prog 60 #[.string s,.slice a L.length cap] w fun e w'=>e = .returned (.int .i64 (checkN L s)) ∧ Below w.heap.size w w':=by
 have HS:=Hd hS
 have HSt:=Hd (refStructs_ok a cap L mv w hS hcap hcm)
 clear hS
 rcases hl:learnK L with ⟨i,c⟩ | K
 ·have hf:=faultN_bad hl
  have hc0:=learnK_ne hl
  have hfin:=Hd (checkN_bad (s:=s) hl)
  have HSt2:=Hd (show Calls Tryz.prog 37 #[.slice a L.length cap] w (fun e w'=>e = .returned (.agg #[.int .i64 (i:Int),.int .i64 c]) ∧ Below w.heap.size w w') from HSt.out.mono fun e w' h=>by unfold StructsEnd at h;rw [hf] at h;exact h)
  have t1:(c != 0) = true:=by simp [hc0]
  clear hf hc0 hl
  go_enter Tryz.func60,Tryz.ntmps60
  go_wp2_with (go_at_call 37;(with_reducible refine HSt2.out.mono ?_);rintro e w1 ⟨rfl,hb1⟩;obtain ⟨⟨d0,d1⟩,_⟩:=two_block (fault_blk w1 (.int .i64 (i:Int)) (.int .i64 c));have HB1:=Hd (hb1.alloc hb1.size (.cells #[.int .i64 (i:Int),.int .i64 c] 32));clear hb1)
  go_ret
  exact ⟨by rw [hfin.out];rfl,HB1.out⟩
 ·have hk:=learnK_knows hl
  have hf:=faultN_ok hl
  have hfin:=Hd (checkN_ok (s:=s) hl)
  have HSt2:=Hd (show Calls Tryz.prog 37 #[.slice a L.length cap] w (fun e w'=>e = .returned (.agg #[.int .i64 0,.int .i64 0]) ∧ Below w.heap.size w w') from HSt.out.mono fun e w' h=>by unfold StructsEnd at h;rw [hf] at h;exact h)
  have HCk:=Hd (fun w1 (hb:Below w.heap.size w w1)=>refCheckT_ok K L a cap mv hk.good hk.fit hk.list s w1 ((HS.out.below hb).mono hb.size))
  clear hf hk hl
  generalize checkS K s = c at *
  go_enter Tryz.func60,Tryz.ntmps60
  go_wp2_with (go_at_call 37;(with_reducible refine HSt2.out.mono ?_);rintro e w1 ⟨rfl,hb1⟩;obtain ⟨⟨d0,d1⟩,_⟩:=two_block (fault_blk w1 (.int .i64 0) (.int .i64 0));have hb2:=hb1.alloc hb1.size (.cells #[.int .i64 0,.int .i64 0] 32);have HB1:=Hd hb2;have HC1:=Hd (HCk.out _ hb2);clear hb1 hb2)
  go_wp2_with (go_at_call 86;(with_reducible refine HC1.out.mono ?_);rintro e w3 ⟨rfl,hb3⟩;have HB3:=Ht HB1 hb3;clear hb3)
  go_ret
  exact ⟨by rw [hfin.out];rfl,HB3.out⟩
set_option maxRecDepth 100000 in
set_option maxHeartbeats 4000000 in
theorem checkAll_ok (s:ByteArray) (a:Option Addr) (cap:Nat) (L:List Sr) (mv:List Value) (w:World) (hE:TE w) (hS:IsSrs w.heap.size w a L mv) :
 Calls Tryz.prog 81 #[.string s,.slice a L.length cap] w fun e w'=>e = .returned (.int .i64 (checkN L s)) ∧ Below w.heap.size w w':=by
 have HE:=Hd hE
 have HL:=Hd (learn_ok a cap L mv w hE hS)
 clear hE hS
 go_enter Tryz.func81,Tryz.ntmps81
 go_wp2_with (go_at_call 79;(with_reducible refine HL.out.mono ?_))
 intro e w1 hend
 obtain ⟨hb1,⟨i,c,hl,hc,rfl⟩ | ⟨K,b,mb,lv,sv,av,hl,rfl,hF,hkn⟩⟩:=hend
 ·have hfin:=Hd (checkN_bad (s:=s) hl)
  have t1:(c != 0) = true:=by simp [hc]
  have HB1:=Hd hb1
  clear hl hc hb1
  go_wp2_with fail
  go_ret
  exact ⟨by rw [hfin.out];rfl,HB1.out.alloc HB1.out.size _⟩
 ·have HB1:=Hd hb1
  have hg:Below (w1.heap.size) w1 (w1.alloc (.cells #[.int .i64 0,.int .i64 0] 32)):=(Below.refl _ _).alloc (Nat.le_refl _) _
  have HG:=Hd (hb1.trans (hg.mono hb1.size))
  have HC:=Hd (check_ok s _ (HE.out.below HG.out) (hkn.below hg) hF)
  have hfin:=Hd (checkN_ok (s:=s) hl)
  clear hkn hb1 hg hF hl
  generalize checkS K s = c at *
  go_wp2_with (go_at_call 111;(with_reducible refine HC.out.mono ?_);rintro e w5 ⟨rfl,hb5⟩;have HB5:=Ht HG hb5;clear hb5)
  go_ret
  exact ⟨by rw [hfin.out];rfl,HB5.out⟩
set_option maxRecDepth 100000 in
set_option maxHeartbeats 4000000 in
theorem structs_ok (a:Option Addr) (cap:Nat) (L:List Sr) (mv:List Value) (w:World) (hE:TE w) (hS:IsSrs w.heap.size w a L mv) :
 Calls Tryz.prog 54 #[.slice a L.length cap] w (StructsEnd L w):=by
 have HE:=Hd hE
 have HS:=Hd hS
 clear hE hS
 have hat:=fault_blk w (.int .i64 0) (.int .i64 0)
 have hb1:Below w.heap.size w (w.alloc (.cells #[.int .i64 0,.int .i64 0] 32)):=(Below.refl _ _).alloc (Nat.le_refl _) _
 go_enter Tryz.func54,Tryz.ntmps54
 go_upto_region 1 with fail
 generalize w.alloc (.cells #[.int .i64 0,.int .i64 0] 32) = w0 at *
 have HAt:=Hd hat
 have HB0:=Hd hb1
 have hz0:=lt_of_heap hat
 have HL0:=Hd (show Calls Tryz.prog 79 #[.slice a L.length cap] w0 (fun e w'=>(∃ p:Value,e = .returned (.tuple #[p,.agg #[.int .i64 (faultN L).1,.int .i64 (faultN L).2]])) ∧ Below w0.heap.size w0 w') from (learn_ok a cap L mv w0 (HE.out.below hb1) ((HS.out.below hb1).mono hb1.size)).mono fun e w' h=>by
  obtain ⟨hb,⟨i,c,hl,hc,rfl⟩ | ⟨K,b,mb,lv,sv,av,hl,rfl,hF,hkn⟩⟩:=h
  ·exact ⟨⟨_,by rw [faultN_bad hl]⟩,hb⟩
  ·exact ⟨⟨_,by rw [faultN_ok hl]⟩,hb⟩)
 have HF:=Hd (show faultN L = ((faultN L).1,(faultN L).2) from rfl)
 generalize (faultN L).1 = x at *
 generalize (faultN L).2 = c at *
 clear hat hb1
 go_upto_region 2 with (go_at_call 79;(with_reducible refine HL0.out.mono ?_);rintro e w1 ⟨⟨p,rfl⟩,hb1⟩;have HB1:=Hd hb1;clear hb1)
 have hb2:Below w1.heap.size w1 (w1.alloc (.cells #[.int .i64 x,.int .i64 c] 32)):=(Below.refl _ _).alloc (Nat.le_refl _) _
 have hk:=fault_blk w1 (.int .i64 x) (.int .i64 c)
 generalize w1.alloc (.cells #[.int .i64 x,.int .i64 c] 32) = w2 at *
 obtain ⟨⟨k0,k1⟩,_⟩:=two_block hk
 have h31:=(HB1.out.block _ hz0).trans HAt.out
 obtain ⟨⟨d0,d1⟩,fd⟩:=two_block ((hb2.block _ (lt_of_heap h31)).trans h31)
 have fd0:=fd 0
 have fd1:=fd 1
 have HB2:=Hd (HB0.out.trans ((HB1.out.trans (hb2.mono HB1.out.size)).mono HB0.out.size))
 clear fd h31 hb2 hk
 go_wp2_with fail
 exact bodyPost_ret (v:=.agg #[.int .i64 x,.int .i64 c]) (by simp [results,Tryz.results54,go_sem,d0,d1]) rfl (structsEnd HF.out (set_fault HB2.out _ _))
end Go.Proofs.YtbbaooeioogijaaGreatDoor
namespace Go.Proofs.YtbbaooeioogijaaGreatDoor
open Go.RowKit
theorem checkN_nil (s:ByteArray):checkN [] s = checkS [] s:=checkN_ok rfl
theorem refCheckNil (s:ByteArray) (w:World):Calls Tryz.prog 60 #[.string s,.slice none 0 0] w fun e w'=>e = .returned (.int .i64 (checkS [] s)) ∧ Below w.heap.size w w':=by
 have:=refCheckAll_ok s none 0 [] [] w ⟨rfl,(fun h=>absurd rfl h),(fun x hx=>by cases hx)⟩ (Nat.le_refl _) (Nat.zero_le _)
 rw [checkN_nil] at this
 exact this
end Go.Proofs.YtbbaooeioogijaaGreatDoor
