/- Is there a node that is not right: the program. -/
import Derived.Test.YtkokdafkjjcgoaaGreatDoorWell2
import Derived.Test.YtkokdafkjjcgoaaGreatDoorMg19
import Derived.Deep.CutBlock
import Derived.Test.YtkokdafkjjcgoaaGreatDoorMg21
import Derived.Lib.SliceRun
namespace Go.Proofs.YtkokdafkjjcgoaaGreatDoor
open Go.RowKit
theorem looked1_ok (x:Nd) (w:World) (hE:TE w):Calls Tryz.prog 82 #[ndV x] w fun e w'=>e = .returned (.bool (!wellN x)) ∧ Below w.heap.size w w':=by
 have HE:=Hd hE
 have HWl:=Hd (fun w (hE:TE w)=>well_ok x w hE)
 clear hE
 generalize wellN x = r at *
 obtain ⟨k,n,p,i,s,t⟩:=x
 simp only [ndV] at HWl ⊢
 go_enter Tryz.func82,Tryz.ntmps82
 go_upto_region 1 with fail
 have hx1:(w.alloc (ndObj ⟨k,n,p,i,s,t⟩)).heap[w.heap.size]? = some (.cells #[.int .i64 k,.int .i64 n,.int .i64 p,.int .i64 i,.string s,.string t] 36 (0,0)):=heap_alloc_new _ _
 have hb1:Below w.heap.size w (w.alloc (ndObj ⟨k,n,p,i,s,t⟩)):=ba1 _ _
 simp only [ndObj] at hx1 hb1
 generalize w.alloc (.cells #[.int .i64 k,.int .i64 n,.int .i64 p,.int .i64 i,.string s,.string t] 36) = w1 at *
 obtain ⟨⟨d0,d1,d2,d3,d4,d5⟩,_⟩:=six_block hx1
 have HB1:=Hd hb1
 clear hx1 hb1
 go_wp2_with (go_at_call 83;(with_reducible refine (HWl.out w1 (HE.out.below HB1.out)).mono ?_);rintro e w2 ⟨rfl,hb2⟩;have HB2:=Ht HB1 hb2;clear hb2)
 go_ret
 exact ⟨by simp,HB2.out⟩
set_option maxHeartbeats 2000000 in
theorem looked_idx (xs:List Nd) (a:Option Addr) (cap:Nat) (w:World) (hE:TE w) (h:IsNds w.heap.size w a xs) (hl:(xs.length:Int) ≤ 9223372036854775807) :
 Calls Tryz.prog 129 #[.slice a xs.length cap,.func (.func 82) #[] #[]] w fun e w'=>∃ o:Int,e = .returned (.int .i64 o) ∧ decide (0 ≤ o) = (!xs.all wellN) ∧ Below w.heap.size w w':=by
 have HE:=Hd hE
 have HR:=Hd h
 clear hE h
 go_enter Tryz.func129,Tryz.ntmps129
 go_wp2_with fail
 go_loopg [8] xs.length (fun g v8 wy=>∃ k:Nat,k ≤ xs.length ∧ k + g = xs.length ∧ v8 = .int .i64 (k:Int) ∧ Hid (∀ j (hj:j < xs.length),j < k → wellN xs[j] = true) ∧ Hid (Below w.heap.size w wy))
 case atStart=>exact ⟨0,by omega,by omega,rfl,fun j _ h=>by omega,Below.refl _ _⟩
 case round=>
  obtain ⟨k,hk,hkg,rfl,hno,HB⟩:=hrel
  by_cases hlk:k < xs.length
  ·obtain ⟨bb,off,ha,hbl,x0,x1,x2,x3,x4,x5⟩:=nds_at HR.out hlk
   subst ha
   rw [← HB.out.cell hbl] at x0 x1 x2 x3 x4 x5
   rcases h:wellN xs[k] with _ | _
   ·have HC:=Hd ((fun w hE=>looked1_ok xs[k] w hE) wr (HE.out.below HB.out))
    have hfin:=Hd (show (!xs.all wellN) = true by
     rw [Bool.not_eq_true',List.all_eq_false]
     exact ⟨xs[k],List.getElem_mem hlk,by rw [h];simp⟩)
    simp only [h] at HC
    clear h hno
    generalize xs[k]'hlk = mt at *
    obtain ⟨kk,n,p,i,s,t⟩:=mt
    simp only [ndV] at HC x0 x1 x2 x3 x4 x5
    go_wp2_with (go_at_call 82;(with_reducible refine HC.out.mono ?_);rintro e w2 ⟨rfl,hb2⟩;have HB2:=Hd hb2;clear hb2)
    go_ret
    exact ⟨_,rfl,by rw [hfin.out];simp,HB.out.trans (HB2.out.mono HB.out.size)⟩
   ·have HC:=Hd ((fun w hE=>looked1_ok xs[k] w hE) wr (HE.out.below HB.out))
    have HN:=Hd (show ∀ j (hj:j < xs.length),j < k + 1 → wellN xs[j] = true from fun j hj hjk=>by
     rcases Nat.lt_or_ge j k with h' | h'
     ·exact hno.out j hj h'
     ·obtain rfl:j = k:=by omega
      exact h)
    simp only [h] at HC
    clear h hno
    generalize xs[k]'hlk = mt at *
    obtain ⟨kk,n,p,i,s,t⟩:=mt
    simp only [ndV] at HC x0 x1 x2 x3 x4 x5
    go_wp2_with (go_at_call 82;(with_reducible refine HC.out.mono ?_);rintro e w2 ⟨rfl,hb2⟩;have HB2:=Ht HB hb2;clear hb2)
    go_roundg (xs.length - (k + 1))
    case measure=>omega
    case rel=>exact ⟨k + 1,by omega,by omega,by rw [Int.natCast_add];rfl,HN.out,HB2.out⟩
  ·obtain rfl:k = xs.length:=by omega
   have hfin:=Hd (show (!xs.all wellN) = false by
    rw [Bool.not_eq_false',List.all_eq_true]
    intro m hm
    obtain ⟨j,hj,rfl⟩:=List.getElem_of_mem hm
    simp [hno.out j hj hj])
   have t3:(xs.length:Int) ≤ (xs.length:Int):=Int.le_refl _
   go_wp2_with fail
   go_ret
   exact ⟨_,rfl,by rw [hfin.out];rfl,HB.out⟩
set_option maxHeartbeats 2000000 in
theorem looked_has (xs:List Nd) (a:Option Addr) (cap:Nat) (w:World) (hE:TE w) (h:IsNds w.heap.size w a xs) (hl:(xs.length:Int) ≤ 9223372036854775807) :
 Calls Tryz.prog 81 #[.slice a xs.length cap,.func (.func 82) #[] #[]] w fun e w'=>e = .returned (.bool ((!xs.all wellN))) ∧ Below w.heap.size w w':=by
 have H:=Hd (looked_idx xs a cap w hE h hl)
 clear hE h
 go_enter Tryz.func81,Tryz.ntmps81
 go_wp2_with (go_at_call 129;(with_reducible refine H.out.mono ?_);rintro e w1 ⟨o,rfl,ho,hb1⟩;have HO:=Hd ho;clear ho)
 go_ret
 exact ⟨by rw [← HO.out];rfl,hb1⟩
theorem check_long {t:List Nd} (h:4096 < t.length):checkN9 t = 3:=by unfold checkN9;rw [if_pos h]
theorem check_well {t:List Nd} (h:t.length ≤ 4096) (hw:t.all wellN = false):checkN9 t = 90:=by unfold checkN9;rw [if_neg (by omega),if_pos hw]
theorem check_begins {t:List Nd} (h:t.length ≤ 4096) (hb:beginsN t = none):checkN9 t = 90:=by
 unfold checkN9
 rw [if_neg (by omega)]
 by_cases hw:t.all wellN = false
 ·rw [if_pos hw]
 ·rw [if_neg hw,hb]
theorem check_rest {t:List Nd} {fr:List Nat} (h:t.length ≤ 4096) (hw:t.all wellN = true) (hb:beginsN t = some fr):checkN9 t = if (List.range t.length).all (fitsN t fr) = false then 90 else if 48 < deepN t then 3 else 0:=by
 unfold checkN9
 rw [if_neg (by omega),if_neg (by rw [hw];simp),hb]
theorem check_unfit {t:List Nd} {fr:List Nat} {i:Nat} (h:t.length ≤ 4096) (hw:t.all wellN = true) (hb:beginsN t = some fr) (hi:i < t.length) (hf:fitsN t fr i = false):checkN9 t = 90:=by
 rw [check_rest h hw hb,if_pos (List.all_eq_false.2 ⟨i,List.mem_range.2 hi,by rw [hf];simp⟩)]
theorem check_deep {t:List Nd} {fr:List Nat} (h:t.length ≤ 4096) (hw:t.all wellN = true) (hb:beginsN t = some fr) (hf:∀ i,i < t.length → fitsN t fr i = true):checkN9 t = if 48 < deepN t then 3 else 0:=by
 rw [check_rest h hw hb,if_neg (by rw [List.all_eq_true.2 (fun i hi=>hf i (List.mem_range.1 hi))];simp)]
theorem given_of {t:List Nd} {fr:List Nat} (h:t.length ≤ 4096) (hw:t.all wellN = true) (hb:beginsN t = some fr):Given t fr:=
 ⟨h,formed_of hb,fun _ x hx=>List.all_eq_true.1 hw x (List.mem_of_getElem? hx)⟩
theorem fits_next {t:List Nd} {fr:List Nat} {i:Nat} (h:∀ j,j < i → fitsN t fr j = true) (hf:fitsN t fr i = true):∀ j,j < i + 1 → fitsN t fr j = true:=fun j hj=>by
 rcases Nat.lt_or_ge j i with h' | h'
 ·exact h j h'
 ·obtain rfl:j = i:=by omega
  exact hf
theorem nats_set {B r o:Nat} {w:World} {a:Option Addr} {L:List Nat} {u:Value} (h:IsNats B w a L) (hne:∀ g off,a = some ⟨g,off,none⟩ → g ≠ r):IsNats B (w.setCell ⟨r,o,none⟩ u) a L:=fun hn=>by
 obtain ⟨g,off,ha,hlt,hc⟩:=h hn
 refine ⟨g,off,ha,hlt,fun i x hx j v hv=>?_⟩
 rw [World.cell?_setCell_other _ _ _ _ (fun e=>hne g off ha (by rw [Addr.mk.injEq] at e;exact e.1.symm))]
 exact hc i x hx j v hv
theorem NatRow.far {w:World} {base:Nat} {v:Value} {L:List Nat} (h:NatRow w base v L) (hn:L ≠ []):∃ g cap,v = .slice (some ⟨g,0,none⟩) L.length cap ∧ base ≤ g ∧ IsNats w.heap.size w (some ⟨g,0,none⟩) L:=by
 obtain ⟨a,cap,hv,ha⟩:=natRow_sl h
 obtain ⟨g,hg,hb,_,_⟩:=ha hn
 obtain ⟨a2,cap2,hv2,hN,_⟩:=h.is
 subst hv hg
 simp only [Value.slice.injEq] at hv2
 exact ⟨g,cap,rfl,hb,by rw [hv2.1];exact hN⟩
theorem whole_set {w0 w:World} {a:Option Addr} {g:Nat} {t:List Nd} {fr:List Nat} (h:WholeAt w a (some ⟨g,0,none⟩) t fr) (hI:IsNds w0.heap.size w0 a t) (hg:w0.heap.size < g) (o:Nat) (u:Value):WholeAt (w.setCell ⟨w0.heap.size,o,none⟩ u) a (some ⟨g,0,none⟩) t fr:=by
 refine ⟨fun hn=>?_,?_⟩
 ·obtain ⟨b,off,ha,hlt,hc⟩:=h.nds hn
  obtain ⟨b2,off2,ha2,hlt2,_⟩:=hI hn
  obtain ⟨rfl,rfl⟩:b = b2 ∧ off = off2:=by rw [ha] at ha2;simpa using ha2
  refine ⟨b,off,ha,by simpa using hlt,fun i x hx j v hv=>?_⟩
  rw [World.cell?_setCell_other _ _ _ _ (fun e=>by rw [Addr.mk.injEq] at e;omega)]
  exact hc i x hx j v hv
 ·have:=nats_set (r:=w0.heap.size) (o:=o) (u:=u) h.nats (fun g' off e=>by simp at e;omega)
  exact this.mono (by simp)
def FarB (w:World) (b:Option Addr):Prop:=∀ (g off:Nat),b = some ⟨g,off,none⟩ → w.heap.size ≤ g
def LookedEnd (a:Option Addr) (cap:Nat) (t:List Nd) (w:World) (e:Ending) (w':World):Prop:=
 ((checkN9 t = 0 ∧ ∃ (b:Option Addr) (capb:Nat) (fr:List Nat),e = .returned (.tuple #[.agg #[.slice a t.length cap,.slice b fr.length capb],.int .i64 0]) ∧ beginsN t = some fr ∧ Given t fr ∧ WholeAt w' a b t fr ∧ FarB w b) ∨ (checkN9 t ≠ 0 ∧ e = .returned (.tuple #[.agg #[.slice none 0 0,.slice none 0 0],.int .i64 (checkN9 t)]))) ∧ Below w.heap.size w w'
theorem looked_no {a:Option Addr} {cap:Nat} {t:List Nd} {w w':World} {c:Int} (h:checkN9 t = c) (hc:c ≠ 0) (hb:Below w.heap.size w w'):LookedEnd a cap t w (.returned (.tuple #[.agg #[.slice none 0 0,.slice none 0 0],.int .i64 c])) w':=⟨.inr ⟨by rw [h];exact hc,by rw [h]⟩,hb⟩
theorem looked_yes {a b:Option Addr} {cap capb:Nat} {t:List Nd} {fr:List Nat} {w w':World} (h:checkN9 t = 0) (hg:beginsN t = some fr) (hG:Given t fr) (hW:WholeAt w' a b t fr) (hf:FarB w b) (hb:Below w.heap.size w w'):LookedEnd a cap t w (.returned (.tuple #[.agg #[.slice a t.length cap,.slice b fr.length capb],.int .i64 0])) w':=⟨.inl ⟨h,b,capb,fr,rfl,hg,hG,hW,hf⟩,hb⟩
set_option maxRecDepth 100000 in
set_option maxHeartbeats 8000000 in
theorem looked_ok (a:Option Addr) (cap:Nat) (t:List Nd) (w:World) (hE:TE w) (hI:IsNds w.heap.size w a t) (hOk:∀ x ∈ t,NdOk x) (hz:t.length * 64 ≤ 140737488351232) :
 Calls Tryz.prog 37 #[.slice a t.length cap] w (LookedEnd a cap t w):=by
 have HI:=Hd hI
 have HOk:=Hd hOk
 have HE:=Hd hE
 clear hI hOk hE
 have hmx:(t.length:Int) ≤ 2199023255488:=by omega
 rcases Nat.lt_or_ge 4096 t.length with hl | hl
 ·have t1:decide ((4096:Int) < (t.length:Int)) = true:=by rw [decide_eq_true_iff];omega
  have hv:=Hd (check_long hl)
  go_enter Tryz.func37,Tryz.ntmps37
  go_upto_region 1 with fail
  have hx0:(w.alloc (.cells #[.slice none 0 0,.slice none 0 0] 81)).heap[w.heap.size]? = some (.cells #[.slice none 0 0,.slice none 0 0] 81 (0,0)):=heap_alloc_new _ _
  have hb0:Below w.heap.size w (w.alloc (.cells #[.slice none 0 0,.slice none 0 0] 81)):=ba1 _ _
  have hz0:(w.alloc (.cells #[.slice none 0 0,.slice none 0 0] 81)).heap.size = w.heap.size + 1:=by simp
  generalize w.alloc (.cells #[.slice none 0 0,.slice none 0 0] 81) = w0 at *
  obtain ⟨⟨r0,r1⟩,rf⟩:=two_block hx0
  have HX0:=Hd hx0
  have HB0:=Hd hb0
  have HZ0:=Hd hz0
  clear hx0 hb0 hz0
  go_wp2_with fail
  exact bodyPost_ret (v:=.tuple #[.agg #[.slice none 0 0,.slice none 0 0],.int .i64 3]) (by simp [results,Tryz.results37,go_sem,r0,r1]) rfl (looked_no hv.out (by decide) (set_fault HB0.out _ _))
 have t1:decide ((4096:Int) < (t.length:Int)) = false:=by rw [decide_eq_false_iff_not];omega
 go_enter Tryz.func37,Tryz.ntmps37
 go_upto_region 1 with fail
 have hx0:(w.alloc (.cells #[.slice none 0 0,.slice none 0 0] 81)).heap[w.heap.size]? = some (.cells #[.slice none 0 0,.slice none 0 0] 81 (0,0)):=heap_alloc_new _ _
 have hb0:Below w.heap.size w (w.alloc (.cells #[.slice none 0 0,.slice none 0 0] 81)):=ba1 _ _
 have hz0:(w.alloc (.cells #[.slice none 0 0,.slice none 0 0] 81)).heap.size = w.heap.size + 1:=by simp
 generalize w.alloc (.cells #[.slice none 0 0,.slice none 0 0] 81) = w0 at *
 obtain ⟨⟨r0,r1⟩,rf⟩:=two_block hx0
 have HX0:=Hd hx0
 have HB0:=Hd hb0
 have HZ0:=Hd hz0
 clear hx0 hb0 hz0
 have hI0:=Hd ((HI.out.below HB0.out (Nat.le_refl _)).mono HB0.out.size)
 have HBg:=Hd (begins_ok a cap t w0 hI0.out hl HOk.out)
 have HHas:=Hd (fun w (hE:TE w) (hI:IsNds w.heap.size w a t)=>looked_has t a cap w hE hI (by omega))
 rcases hbg:beginsN t with _ | fr
 ·have hv:=Hd (check_begins hl hbg)
  have HNo:=Hd (show (beginsN t).isSome = false by rw [hbg];rfl)
  clear hbg
  go_wp2_with (go_at_call 80;(with_reducible refine HBg.out.mono ?_);rintro e w2 ⟨⟨v,ok,rfl,hok,_⟩,hb2⟩;have hok2:=hok.trans HNo.out;clear hok;subst hok2;have hx2:=(hb2.block _ (lt_of_heap HX0.out)).trans HX0.out;obtain ⟨⟨s0,s1⟩,sf⟩:=two_block hx2;have HB2:=Ht HB0 hb2;clear hb2 hx2)
  exact bodyPost_ret (v:=.tuple #[.agg #[.slice none 0 0,.slice none 0 0],.int .i64 90]) (by simp [results,Tryz.results37,go_sem,s0,s1]) rfl (looked_no hv.out (by decide) (set_fault HB2.out _ _))
 ·have HSo:=Hd (show (beginsN t).isSome = true by rw [hbg];rfl)
  have HBe:=Hd hbg
  have HLen:=Hd (formed_of hbg)
  clear hbg
  go_upto_region 4 with (go_at_call 80;(with_reducible refine HBg.out.mono ?_);rintro e w2 ⟨⟨v,ok,rfl,hok,hrow⟩,hb2⟩;have hok2:=hok.trans HSo.out;clear hok;subst hok2;obtain ⟨fr2,hfr,hrow⟩:=hrow rfl;obtain rfl:=Option.some.inj (HBe.out.symm.trans hfr);obtain ⟨g,capb,rfl,hg,hN⟩:=hrow.far (fun e=>by have h1:=HLen.out.len;have h2:=HLen.out.pos;rw [e] at h1;simp at h1;omega);have HN:=Hd hN;have hx2:=(hb2.block _ (lt_of_heap HX0.out)).trans HX0.out;have HX2:=Hd hx2;have HB2:=Ht HB0 hb2;have HW2:=Hd (show WholeAt w2 a (some ⟨g,0,none⟩) t fr from ⟨(hI0.out.below hb2 (Nat.le_refl _)).mono hb2.size,hN⟩);rw [HZ0.out] at hg;clear hb2 hrow hN hfr hx2)
  have HH2:=Hd (HHas.out w2 (HE.out.below HB2.out) HW2.out.nds)
  rcases hall:t.all wellN with _ | _
  ·have hv:=Hd (check_well hl hall)
   rw [hall] at HH2
   clear hall
   go_wp2_with (go_at_call 81;(with_reducible refine HH2.out.mono ?_);rintro e w3 ⟨rfl,hb3⟩;have hx3:=(hb3.block _ (lt_of_heap HX2.out)).trans HX2.out;obtain ⟨⟨s0,s1⟩,sf⟩:=two_block hx3;have HB3:=Ht HB2 hb3;clear hb3 hx3)
   exact bodyPost_ret (v:=.tuple #[.agg #[.slice none 0 0,.slice none 0 0],.int .i64 90]) (by simp [results,Tryz.results37,go_sem,s0,s1]) rfl (looked_no hv.out (by decide) (set_fault HB3.out _ _))
  ·have HAll:=Hd hall
   have hG:=given_of hl hall HBe.out
   have HDp:=Hd (fun w (hI:IsNds w.heap.size w a t)=>treeDeep_ok a cap t w hI hl HBe.out HOk.out)
   have HFt:=Hd (fun (b:Option Addr) (capb:Nat) k hk w hW=>fits_ok a cap t b capb fr hG k hk w hW)
   have HG:=Hd hG
   rw [hall] at HH2
   clear hall hG
   go_upto_region 7 with (go_at_call 81;(with_reducible refine HH2.out.mono ?_);rintro e w3 ⟨rfl,hb3⟩;have hx3:=(hb3.block _ (lt_of_heap HX2.out)).trans HX2.out;have HX3:=Hd hx3;have HB3:=Ht HB2 hb3;have HW3:=Hd (HW2.out.below hb3);clear hb3 hx3)
   have hx4:(w3.alloc (.cells #[.slice a t.length cap,.slice (some ⟨g,0,none⟩) fr.length capb] 81)).heap[w3.heap.size]? = some (.cells #[.slice a t.length cap,.slice (some ⟨g,0,none⟩) fr.length capb] 81 (0,0)):=heap_alloc_new _ _
   have hb4:Below w3.heap.size w3 (w3.alloc (.cells #[.slice a t.length cap,.slice (some ⟨g,0,none⟩) fr.length capb] 81)):=ba1 _ _
   generalize w3.alloc (.cells #[.slice a t.length cap,.slice (some ⟨g,0,none⟩) fr.length capb] 81) = w4 at *
   have hz4:=lt_of_heap hx4
   have HX4:=Hd hx4
   have HX04:=Hd ((hb4.block _ (lt_of_heap HX3.out)).trans HX3.out)
   have HB4:=Ht HB3 hb4
   have HW4:=Hd (HW3.out.below hb4)
   have hr4:=lt_of_heap HX04.out
   clear hx4 hb4 rf r0 r1
   go_wp2_with fail
   go_loopg [29] t.length (fun m v29 wy=>∃ i:Nat,i ≤ t.length ∧ i + m = t.length ∧ v29 = .int .i64 (i:Int) ∧ Hid (∀ j,j < i → fitsN t fr j = true) ∧ Hid (Below w4.heap.size w4 wy))
   case atStart=>exact ⟨0,by omega,by omega,rfl,Hd (fun j h=>by omega),Hd (Below.refl _ _)⟩
   case round=>
    obtain ⟨i,hi,him,rfl,HY,HC⟩:=hrel
    have HBr:=Hd (HB4.out.trans (HC.out.mono HB4.out.size))
    have hxr:=(HC.out.block _ hz4).trans HX4.out
    obtain ⟨⟨q0,q1⟩,_⟩:=two_block hxr
    have hxs:=(HC.out.block _ hr4).trans HX04.out
    obtain ⟨⟨r0,r1⟩,rf⟩:=two_block hxs
    have HXS:=Hd hxs
    clear hxr hxs
    by_cases hlt:i < t.length
    ·have HF:=Hd (HFt.out (some ⟨g,0,none⟩) capb i hlt wr (HW4.out.below HC.out))
     rcases hf:fitsN t fr i with _ | _
     ·have hv:=Hd (check_unfit hl HAll.out HBe.out hlt hf)
      rw [hf] at HF
      clear hf
      go_wp2_with (go_at_call 84;(with_reducible refine HF.out.mono ?_);rintro e w5 ⟨rfl,hb5⟩;have hx5:=(hb5.block _ (lt_of_heap HXS.out)).trans HXS.out;obtain ⟨⟨s0,s1⟩,sf⟩:=two_block hx5;have HB5:=Ht HBr hb5;clear hb5 hx5)
      exact bodyPost_ret (v:=.tuple #[.agg #[.slice none 0 0,.slice none 0 0],.int .i64 90]) (by simp [results,Tryz.results37,go_sem,s0,s1]) rfl (looked_no hv.out (by decide) (set_fault HB5.out _ _))
     ·have HY2:=Hd (fits_next HY.out hf)
      rw [hf] at HF
      clear hf HY
      go_wp2_with (go_at_call 84;(with_reducible refine HF.out.mono ?_);rintro e w5 ⟨rfl,hb5⟩;have HB5:=Ht HC hb5;clear hb5)
      go_roundg (t.length - (i + 1))
      case measure=>omega
      case rel=>exact ⟨i + 1,by omega,by omega,by rw [Int.natCast_add];rfl,HY2,HB5⟩
    ·obtain rfl:i = t.length:=by omega
     have hdp:=Hd (check_deep hl HAll.out HBe.out HY.out)
     have HWr:=Hd (HW4.out.below HC.out)
     have HD:=Hd (HDp.out wr HWr.out.nds)
     clear HY
     generalize deepN t = d at *
     by_cases h48:48 < d
     ·have t2:decide ((48:Int) < (d:Int)) = true:=by rw [decide_eq_true_iff];omega
      have hv:=Hd (show checkN9 t = 3 by rw [hdp.out,if_pos h48])
      clear h48
      go_wp2_with (go_at_call 85;(with_reducible refine HD.out.mono ?_);rintro e w5 ⟨rfl,hb5⟩;have hx5:=(hb5.block _ (lt_of_heap HXS.out)).trans HXS.out;obtain ⟨⟨s0,s1⟩,sf⟩:=two_block hx5;have HB5:=Ht HBr hb5;clear hb5 hx5)
      exact bodyPost_ret (v:=.tuple #[.agg #[.slice none 0 0,.slice none 0 0],.int .i64 3]) (by simp [results,Tryz.results37,go_sem,s0,s1]) rfl (looked_no hv.out (by decide) (set_fault HB5.out _ _))
     ·have t2:decide ((48:Int) < (d:Int)) = false:=by rw [decide_eq_false_iff_not];omega
      have hv:=Hd (show checkN9 t = 0 by rw [hdp.out,if_neg h48])
      clear h48
      have hqr:=lt_of_heap ((HC.out.block _ hz4).trans HX4.out)
      go_wp2_with (go_at_call 85;(with_reducible refine HD.out.mono ?_);rintro e w5 ⟨rfl,hb5⟩;have hx5:=(hb5.block _ (lt_of_heap HXS.out)).trans HXS.out;obtain ⟨⟨s0,s1⟩,sf⟩:=two_block hx5;have y0:=q0;have y1:=q1;rw [← hb5.cell hqr] at y0 y1;have HB5:=Ht HBr hb5;have HW5:=Hd (HWr.out.below hb5);clear hb5 hx5)
      exact bodyPost_ret (v:=.tuple #[.agg #[.slice a t.length cap,.slice (some ⟨g,0,none⟩) fr.length capb],.int .i64 0]) (by simp [results,Tryz.results37,go_sem,s0,s1]) rfl (looked_yes hv.out HBe.out HG.out (whole_set (whole_set HW5.out HI.out (by omega) _ _) HI.out (by omega) _ _) (fun g' off' e=>by cases e;omega) (set_fault HB5.out _ _))
theorem infoNd:(Tryz.prog.info? 36).map (fun i=>(i.zero,i.size,i.bytes)) = some (some (.agg #[.int .i64 0,.int .i64 0,.int .i64 0,.int .i64 0,.string ⟨#[]⟩,.string ⟨#[]⟩]),6,64):=by kernel_rfl
theorem nd_len (x:Nd):(ndCells x).length = 6:=rfl
theorem nd_one (t:List Nd):∀ u ∈ t.flatMap ndCells,u.oneCell' = true:=fun u hu=>by
 obtain ⟨x,_,hx⟩:=List.mem_flatMap.1 hu
 simp only [ndCells,List.mem_cons,List.not_mem_nil,or_false] at hx
 rcases hx with rfl | rfl | rfl | rfl | rfl | rfl <;> rfl
def NdRow (w:World) (base:Nat) (v:Value) (t:List Nd):Prop:=w.ownsRow base 36 6 v t.length (t.flatMap ndCells)
theorem nil_row (w:World) {base:Nat} (hb:base ≤ w.heap.size):(w.alloc (.cells #[] 36)).ownsRow base 36 6 (.slice (some ⟨w.heap.size,0,none⟩) 0 0) 0 []:=World.ownsRow_lit w #[] 0 hb (by decide) rfl
set_option maxHeartbeats 4000000 in
theorem copyTree_ok (a:Option Addr) (cap:Nat) (t:List Nd) (w:World) (hI:IsNds w.heap.size w a t) (hz:t.length * 64 ≤ 140737488351232) (hnil:a = none → t = [] ∧ cap = 0) :
 Calls Tryz.prog 9 #[.slice a t.length cap] w fun e w'=>(∃ v,e = .returned v ∧ NdRow w' w.heap.size v t) ∧ Below w.heap.size w w':=by
 obtain ⟨i0,hi,hz0,hz1,hz2⟩:=info_parts infoNd
 have HI0:=Hd (And.intro hi (And.intro hz0 (And.intro hz1 hz2)))
 clear hi hz0 hz1 hz2
 cases a with
 | none=>
   obtain ⟨rfl,rfl⟩:=hnil rfl
   clear hI hnil
   go_enter Tryz.func9,Tryz.ntmps9
   go_wp2_with (at_builtin;go_loud (refine wpList_append_own_none rfl _ _ _ rfl w.heap.size 36 i0 6 Tryz.underlying23 HI0.out.1 _ 0 [] rfl (nil_row _ (Nat.le_refl _)) rfl ?_))
   go_ret
   exact ⟨⟨_,rfl,nil_row _ (Nat.le_refl _)⟩,ba1 _ _⟩
 | some ad=>
   have HI:=Hd hI
   have HL:=Hd (flat_len nd_len t)
   clear hI hnil
   go_enter Tryz.func9,Tryz.ntmps9
   go_wp2_with (at_builtin;go_loud (refine wpList_append_own _ rfl _ _ _ rfl w.heap.size 36 i0 _ 6 64 Tryz.underlying23 HI0.out.1 HI0.out.2.1 HI0.out.2.2.1 HI0.out.2.2.2 rfl (by decide) _ 0 [] rfl (nil_row _ (Nat.le_refl _)) ad t.length cap (t.flatMap ndCells) rfl HL.out (sl_news nd_len (HI.out.below (ba1 _ _) (Nat.le_refl _))) (nd_one t) (by unfold maxLen;omega) (by omega) (ba1 _ _).size ?_))
   intro v' w' hown hgrow _
   go_wp2_with fail
   go_ret
   refine ⟨⟨v',rfl,by unfold NdRow;simpa using hown⟩,(ba1 _ _).grown hgrow (ba1 _ _).size (fun k hk=>by simp [Value.ownBlock] at hk;omega)⟩
set_option maxHeartbeats 4000000 in
theorem sameInts_ok (a b:Option Addr) (ca cb:Nat) (L:List Nat) (w:World) (hA:IsNats w.heap.size w a L) (hB:IsNats w.heap.size w b L) (hl:L.length ≤ 4096) :
 Calls Tryz.prog 14 #[.slice a L.length ca,.slice b L.length cb] w fun e w'=>e = .returned (.bool true) ∧ Below w.heap.size w w':=by
 have HA:=Hd hA
 have HB:=Hd hB
 have hli:(L.length:Int) ≤ 4096:=by omega
 have hne:((L.length:Int) != (L.length:Int)) = false:=by simp
 clear hA hB
 go_enter Tryz.func14,Tryz.ntmps14
 go_wp2_with fail
 go_loopg [5] L.length (fun m v5 wy=>∃ (i:Nat),i ≤ L.length ∧ i + m = L.length ∧ v5 = .int .i64 (i:Int) ∧ Hid (Below w.heap.size w wy))
 case atStart=>exact ⟨0,by omega,by omega,rfl,Hd (Below.refl _ _)⟩
 case round=>
  obtain ⟨i,hi,him,rfl,HW⟩:=hrel
  by_cases hlt:i < L.length
  ·obtain ⟨b1,o1,ha,hb1,c1⟩:=nats_at HA.out hlt
   obtain ⟨b2,o2,hb,hb2,c2⟩:=nats_at HB.out hlt
   subst ha hb
   rw [← HW.out.cell hb1] at c1
   rw [← HW.out.cell hb2] at c2
   generalize L[i] = q at *
   have t1:((q:Int) != (q:Int)) = false:=by simp
   have hi0:(0:Int) ≤ (i:Int):=by omega
   have hi1:(i:Int) < (L.length:Int):=by omega
   go_wp2_with fail
   go_quiet (fail)
   go_wp2_with fail
   go_roundg (L.length - (i + 1))
   case measure=>omega
   case rel=>exact ⟨i + 1,by omega,by omega,by rw [Int.natCast_add];rfl,Hd (blw_drewN HW.out _)⟩
  ·obtain rfl:i = L.length:=by omega
   go_wp2_with fail
   go_ret
   exact ⟨rfl,HW.out⟩
section
variable (a:Option Addr) (cap:Nat) (t:List Nd) (w:World) (hE:TE w) (hI:IsNds w.heap.size w a t) (hOk:∀ x ∈ t,NdOk x) (hz:t.length * 64 ≤ 140737488351232)
include hE hI hOk hz
theorem looked_0 (h:checkN9 t = 0):Calls Tryz.prog 37 #[.slice a t.length cap] w fun e w'=>(∃ (b:Option Addr) (capb:Nat) (fr:List Nat),e = .returned (.tuple #[.agg #[.slice a t.length cap,.slice b fr.length capb],.int .i64 0]) ∧ beginsN t = some fr ∧ Given t fr ∧ WholeAt w' a b t fr ∧ FarB w b) ∧ Below w.heap.size w w':=
 (looked_ok a cap t w hE hI hOk hz).mono fun e w' ⟨hd,hb⟩=>⟨by rcases hd with ⟨_,h'⟩ | ⟨h',_⟩;exact h';exact absurd h h',hb⟩
theorem looked_n (h:checkN9 t ≠ 0):Calls Tryz.prog 37 #[.slice a t.length cap] w fun e w'=>e = .returned (.tuple #[.agg #[.slice none 0 0,.slice none 0 0],.int .i64 (checkN9 t)]) ∧ Below w.heap.size w w':=
 (looked_ok a cap t w hE hI hOk hz).mono fun e w' ⟨hd,hb⟩=>⟨by rcases hd with ⟨h',_⟩ | ⟨_,h'⟩;exact absurd h' h;exact h',hb⟩
theorem treeCheck_ok:Calls Tryz.prog 10 #[.slice a t.length cap] w fun e w'=>e = .returned (.int .i64 (checkN9 t)) ∧ Below w.heap.size w w':=by
 by_cases h:checkN9 t = 0
 ·have HL:=Hd (looked_0 a cap t w hE hI hOk hz h)
  rw [h]
  clear hE hI hOk h
  go_enter Tryz.func10,Tryz.ntmps10
  go_wp2_with (go_at_call 37;(with_reducible refine HL.out.mono ?_);rintro e w1 ⟨⟨b,capb,fr,rfl,_⟩,hb1⟩;have HB:=Hd hb1;clear hb1)
  go_ret
  exact ⟨rfl,HB.out.trans ((ba1 _ _).mono HB.out.size)⟩
 ·have HL:=Hd (looked_n a cap t w hE hI hOk hz h)
  generalize checkN9 t = c at *
  clear hE hI hOk h
  go_enter Tryz.func10,Tryz.ntmps10
  go_wp2_with (go_at_call 37;(with_reducible refine HL.out.mono ?_);rintro e w1 ⟨rfl,hb1⟩;have HB:=Hd hb1;clear hb1)
  go_ret
  exact ⟨rfl,HB.out.trans ((ba1 _ _).mono HB.out.size)⟩
end
def partsR (t:List Nd) (i:Int):List Nat × Int:=
 if checkN9 t ≠ 0 then ([],checkN9 t) else if i < 0 ∨ (t.length:Int) ≤ i then ([],1) else (partsAt t ((beginsN t).getD []) i.toNat,0)
def PartsEnd (t:List Nd) (i:Int) (w:World) (e:Ending) (w':World):Prop:=(∃ v,e = .returned (.tuple #[v,.int .i64 (partsR t i).2]) ∧ NatRow w' w.heap.size v (partsR t i).1) ∧ Below w.heap.size w w'
theorem nat_nil (w:World) (base:Nat):NatRow w base (.slice none 0 0) []:=⟨rfl,.inl ⟨rfl,rfl⟩⟩
theorem partsEnd_no {t:List Nd} {i:Int} {w w':World} {c:Int} (h:partsR t i = ([],c)) (hb:Below w.heap.size w w'):PartsEnd t i w (.returned (.tuple #[.slice none 0 0,.int .i64 c])) w':=⟨⟨_,by rw [h],by rw [h];exact nat_nil _ _⟩,hb⟩
theorem partsEnd_yes {t:List Nd} {i:Int} {w w':World} {v:Value} {L:List Nat} (h:partsR t i = (L,0)) (hr:NatRow w' w.heap.size v L) (hb:Below w.heap.size w w'):PartsEnd t i w (.returned (.tuple #[v,.int .i64 0])) w':=⟨⟨_,by rw [h],by rw [h];exact hr⟩,hb⟩
theorem partsR_bad {t:List Nd} {i:Int} (h:checkN9 t ≠ 0):partsR t i = ([],checkN9 t):=by unfold partsR;rw [if_pos h]
theorem partsR_out {t:List Nd} {i:Int} (h:checkN9 t = 0) (hi:i < 0 ∨ (t.length:Int) ≤ i):partsR t i = ([],1):=by unfold partsR;rw [if_neg (by rw [h];decide),if_pos hi]
theorem partsR_in {t:List Nd} {k:Nat} {fr:List Nat} (h:checkN9 t = 0) (hk:k < t.length) (hb:beginsN t = some fr):partsR t (k:Int) = (partsAt t fr k,0):=by
 unfold partsR
 rw [if_neg (by rw [h];decide),if_neg (by omega),hb]
 rfl
theorem check_formed {t:List Nd} (h:checkN9 t = 0):∃ fr,beginsN t = some fr ∧ Given t fr:=by
 unfold checkN9 at h
 split at h
 ·cases h
 split at h
 ·cases h
 rename_i hl hw
 split at h
 ·cases h
 rename_i fr hb
 exact ⟨fr,hb,given_of (by omega) (by simpa using hw) hb⟩
set_option maxHeartbeats 4000000 in
theorem treeParts_ok (a:Option Addr) (cap:Nat) (t:List Nd) (i:Int) (w:World) (hE:TE w) (hI:IsNds w.heap.size w a t) (hOk:∀ x ∈ t,NdOk x) (hz:t.length * 64 ≤ 140737488351232) :
 Calls Tryz.prog 12 #[.slice a t.length cap,.int .i64 i] w (PartsEnd t i w):=by
 have hmx:(t.length:Int) ≤ 2199023255488:=by omega
 by_cases h:checkN9 t = 0
 ·have HL:=Hd (looked_0 a cap t w hE hI hOk hz h)
  have HC:=Hd h
  clear hE hI hOk h
  rcases Int.lt_or_le i 0 with h0 | h0
  ·have hv:=Hd (partsR_out HC.out (.inl h0))
   have t1:decide (i < 0) = true:=decide_eq_true h0
   go_enter Tryz.func12,Tryz.ntmps12
   go_wp2_with (go_at_call 37;(with_reducible refine HL.out.mono ?_);rintro e w1 ⟨⟨b,capb,fr,rfl,_⟩,hb1⟩;have HB:=Hd hb1;clear hb1)
   go_ret2
   exact partsEnd_no hv.out (HB.out.trans ((ba1 _ _).mono HB.out.size))
  have t1:decide (i < 0) = false:=decide_eq_false (by omega)
  rcases Int.lt_or_le i t.length with h1 | h1
  ·obtain ⟨k,rfl⟩:∃ k:Nat,i = (k:Int):=⟨i.toNat,by omega⟩
   have t2:decide ((t.length:Int) ≤ (k:Int)) = false:=decide_eq_false (by omega)
   have hk:k < t.length:=by omega
   have HP:=Hd (fun b capb fr (hG:Given t fr) w (hW:WholeAt w a b t fr)=>tparts_ok a cap t b capb fr w hW.nds hW.nats hG.le hG.formed k hk)
   go_enter Tryz.func12,Tryz.ntmps12
   go_upto_region 6 with (go_at_call 37;(with_reducible refine HL.out.mono ?_);rintro e w1 ⟨⟨b,capb,fr,rfl,hbe,hG,hW,_⟩,hb1⟩;have HB:=Hd hb1;have HBe:=Hd hbe;have HG:=Hd hG;have HW:=Hd hW;clear hb1 hbe hG hW)
   have hv:=Hd (partsR_in HC.out hk HBe.out)
   have HB2:=Hd (HB.out.trans ((ba1 w1 (.cells #[.slice a t.length cap,.slice b fr.length capb] 81)).mono HB.out.size))
   have HP1:=Hd (HP.out b capb fr HG.out _ (HW.out.below (ba1 w1 (.cells #[.slice a t.length cap,.slice b fr.length capb] 81))))
   go_wp2_with (go_at_call 42;(with_reducible refine HP1.out.mono ?_);rintro e w2 ⟨⟨v,rfl,hr⟩,hb2⟩;have HR:=Hd hr;have HB3:=Hd hb2;clear hr hb2)
   go_ret2
   exact partsEnd_yes hv.out (own_le9 HR.out HB2.out.size) (HB2.out.trans (HB3.out.mono HB2.out.size))
  ·have hv:=Hd (partsR_out HC.out (.inr h1))
   have t2:decide ((t.length:Int) ≤ i) = true:=decide_eq_true h1
   go_enter Tryz.func12,Tryz.ntmps12
   go_wp2_with (go_at_call 37;(with_reducible refine HL.out.mono ?_);rintro e w1 ⟨⟨b,capb,fr,rfl,_⟩,hb1⟩;have HB:=Hd hb1;clear hb1)
   go_ret2
   exact partsEnd_no hv.out (HB.out.trans ((ba1 _ _).mono HB.out.size))
 ·have HL:=Hd (looked_n a cap t w hE hI hOk hz h)
  have hv:=Hd (partsR_bad (i:=i) h)
  have t3:(checkN9 t != 0) = true:=by simpa using h
  generalize checkN9 t = c at *
  clear hE hI hOk h
  go_enter Tryz.func12,Tryz.ntmps12
  go_wp2_with (go_at_call 37;(with_reducible refine HL.out.mono ?_);rintro e w1 ⟨rfl,hb1⟩;have HB:=Hd hb1;clear hb1)
  go_ret2
  exact partsEnd_no hv.out (HB.out.trans ((ba1 _ _).mono HB.out.size))
end Go.Proofs.YtkokdafkjjcgoaaGreatDoor
