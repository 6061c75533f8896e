/- The reference: a struct's place; are the structs given; up t · The reference's sizes: letters, pointers, functions, arrays. · The reference: is an object in a type too great; what is wro · The reference: what is wrong with a type, structs being righ -/
import Derived.Test.YtbbaooeioogijaaGreatDoorMg7
import Derived.Test.YtbbaooeioogijaaGreatDoorMg9
namespace Go.Proofs.YtbbaooeioogijaaGreatDoor
open Go.RowKit
theorem IsSrs.mono {B B':Nat} {w:World} {a:Option Addr} {L:List Sr} {mv:List Value} (h:IsSrs B w a L mv) (hB:B ≤ B'):IsSrs B' w a L mv:=
 ⟨h.len,fun hn=>(by
   obtain ⟨b,off,e,hlt,hr⟩:=h.at_ hn
   exact ⟨b,off,e,Nat.lt_of_lt_of_le hlt hB,fun i x v hi hv=>(by obtain ⟨h1,h2,h3⟩:=hr i x v hi hv;exact ⟨h1,h2,h3.mono hB⟩)⟩),h.names⟩
theorem name_cmp (x:ByteArray) (n:List UInt8):(x.toList == (strB n).toList) = decide (x.data.toList = n):=by
 rw [str_eqb,Bool.eq_iff_iff,decide_eq_true_iff,decide_eq_true_iff]
 exact ⟨fun h=>by rw [h,strB_list],fun h=>strB_eq h⟩
set_option maxHeartbeats 2000000 in
theorem refNamed_ok (n:List UInt8) (a:Option Addr) (cap:Nat) (L:List Sr) (mv:List Value) (w:World) (hS:IsSrs w.heap.size w a L mv) (hl:(code (.str n)).length ≤ 65536) (hL:(L.length:Int) ≤ 1000) :
 Calls Tryz.prog 119 #[.string (tyB (.str n)),.slice a L.length cap] w fun e w'=>e = .returned (.int .i64 (placeS L n)) ∧ Below w.heap.size w w':=by
 have hx:(tyB (.str n)).extract 1 ((tyB (.str n)).size - 1) = strB n:=strB_eq (by
  have:(tyB (.str n)).size - 1 = 1 + n.length:=by rw [tyB_size,code];simp;omega
  rw [this,extract_take,tyB_sfx,code]
  simp)
 have hs2:2 ≤ (tyB (.str n)).size:=by rw [tyB_size,code];simp
 have hs3:(tyB (.str n)).size ≤ 65536:=by rw [tyB_size];exact hl
 have HS:=Hd hS
 generalize tyB (.str n) = s at *
 have HX:=Hd hx
 have e1:IntKind.i64.wrap ((s.size:Int) - 1) = (s.size:Int) - 1:=IntWalk.i64_in _ (by omega)
 have e2:((s.size:Int) - 1).toNat = s.size - 1:=by omega
 have e3:(1:Int) ≤ (s.size:Int) - 1:=by omega
 have e4:(s.size:Int) - 1 ≤ s.size:=by omega
 clear hS hx hl hs3
 go_enter Tryz.func119,Tryz.ntmps119
 go_wp2_with fail
 go_loopg [5] L.length (fun g v5 wy=>∃ k:Nat,k ≤ L.length ∧ k + g = L.length ∧ v5 = .int .i64 (k:Int) ∧ Hid (∀ j (hj:j < L.length),j < k → L[j].name.data.toList ≠ n) ∧ Hid (Below w.heap.size w wy))
 case atStart=>exact ⟨0,by omega,by omega,rfl,fun j _ h=>by omega,Below.refl _ _⟩
 case round=>
  obtain ⟨k,hk,hkg,rfl,hno,HB⟩:=hrel
  by_cases hlt:k < L.length
  ·obtain ⟨bb,off,ha,hbl,hrow⟩:=HS.out.at_ (fun e=>by rw [e] at hlt;simp at hlt)
   subst ha
   have hlm:k < mv.length:=by rw [HS.out.len];exact hlt
   have c1:=(hrow k _ _ (List.getElem?_eq_getElem hlt) (List.getElem?_eq_getElem hlm)).1
   rw [← HB.out.cell hbl] at c1
   have hcmp:=name_cmp L[k].name n
   rw [← HX.out] at hcmp
   by_cases h:L[k].name.data.toList = n
   ·have hfin:=Hd (show placeS L n = (k:Int) by
     have:findS L n = some k:=by
      unfold findS
      rw [List.findIdx?_eq_some_iff_getElem]
      exact ⟨hlt,by simpa using h,fun j hj=>by simpa using hno.out j (by omega) hj⟩
     unfold placeS;rw [this])
    rw [decide_eq_true h] at hcmp
    clear h hrow hno hlm
    generalize (L[k]'hlt).name = nm at *
    go_wp2_with fail
    go_quiet (fail)
    go_wp2_with fail
    go_ret
    exact ⟨by rw [hfin.out];rfl,blw_drewN HB.out _⟩
   ·have HN:=Hd (show ∀ j (hj:j < L.length),j < k + 1 → L[j].name.data.toList ≠ n from fun j hj hjk=>by
     rcases Nat.lt_or_ge j k with h' | h'
     ·exact hno.out j hj h'
     ·obtain rfl:j = k:=by omega
      exact h)
    rw [decide_eq_false h] at hcmp
    clear h hrow hno hlm
    generalize (L[k]'hlt).name = nm at *
    go_wp2_with fail
    go_quiet (fail)
    go_wp2_with fail
    go_roundg (L.length - (k + 1))
    case measure=>omega
    case rel=>exact ⟨k + 1,by omega,by omega,by rw [Int.natCast_add];rfl,HN.out,blw_drewN HB.out _⟩
  ·obtain rfl:k = L.length:=by omega
   have hfin:=Hd (show placeS L n = -1 by
    have:findS L n = none:=by
     unfold findS
     rw [List.findIdx?_eq_none_iff]
     intro x hx
     obtain ⟨j,hj,rfl⟩:=List.getElem_of_mem hx
     simpa using hno.out j hj hj
    unfold placeS;rw [this])
   have t3:(L.length:Int) ≤ (L.length:Int):=Int.le_refl _
   clear hno
   go_wp2_with fail
   go_ret
   exact ⟨by rw [hfin.out];rfl,HB.out⟩
theorem placeS_some {L:List Sr} {n:List UInt8}:decide (0 ≤ placeS L n) = (findS L n).isSome:=by
 unfold placeS
 cases findS L n <;> simp
def thereS (L:List Sr):Ty → Bool
 | .arr _ t=>thereS L t
 | .str s=>(findS L s).isSome
 | _=>true
theorem thereS_map (K:List Kn):∀ t:Ty,thereS (K.map Kn.toSr) t = thereT K t
 | .arr _ t=>by rw [thereS,thereT,thereS_map K t]
 | .str s=>by rw [thereS,thereT,findS_map]
 | .base _=>by simp [thereS,thereT]
 | .ptr _=>by simp [thereS,thereT]
 | .fn _ _=>by simp [thereS,thereT]
set_option maxHeartbeats 2000000 in
theorem refGiven_ok (a:Option Addr) (cap:Nat) (L:List Sr) (mv:List Value) (hL:(L.length:Int) ≤ 1000):∀ (t:Ty) (w:World),IsSrs w.heap.size w a L mv → Right t → (code t).length ≤ 65536 →
 Calls Tryz.prog 116 #[.string (tyB t),.slice a L.length cap] w fun e w'=>e = .returned (.bool (thereS L t)) ∧ Below w.heap.size w w'
 | .arr n u,w,hS,hr,hl=>by
   have HS:=Hd hS
   have HK:=Hd (fun w=>kind_is 97 (.arr n u) w rfl)
   have HIn:=Hd (fun w=>refInner_arr n u hr hl w)
   have ih:=refGiven_ok a cap L mv hL u
   have HI:=Hd (fun w (hS:IsSrs w.heap.size w a L mv)=>ih w hS hr.2 (by rw [code] at hl;simp at hl;omega))
   rw [show thereS L (.arr n u) = thereS L u by rw [thereS]]
   generalize tyB (.arr n u) = s at *
   generalize thereS L u = r at *
   clear hr hl ih hS
   go_enter Tryz.func116,Tryz.ntmps116
   go_wp2_with (first | (go_at_call 93;(with_reducible refine (HK.out _).mono ?_);rintro e w1 ⟨rfl,hw1⟩;subst w1) | (go_at_call 118;(with_reducible refine (HIn.out _).mono ?_);rintro e w3 ⟨rfl,hb3⟩;have HB3:=Hd hb3;have HG:=Hd (HI.out w3 ((HS.out.below hb3).mono hb3.size));clear hb3) | (go_at_call 116;(with_reducible refine HG.out.mono ?_);rintro e w4 ⟨rfl,hb4⟩;have HB4:=Ht HB3 hb4;clear hb4))
   go_ret
   exact ⟨rfl,HB4.out⟩
 | .str n,w,hS,_,hl=>by
   have HN:=Hd (fun w (hS:IsSrs w.heap.size w a L mv)=>refNamed_ok n a cap L mv w hS hl hL)
   have HS:=Hd hS
   have HK:=Hd (fun w=>kind_is 83 (.str n) w rfl)
   rw [show thereS L (.str n) = decide (0 ≤ placeS L n) by rw [thereS,placeS_some]]
   have HN1:=Hd (HN.out w HS.out)
   generalize tyB (.str n) = s at *
   generalize placeS L n = i at *
   clear hl hS
   go_enter Tryz.func116,Tryz.ntmps116
   go_wp2_with (first | (go_at_call 93;(with_reducible refine (HK.out _).mono ?_);rintro e w1 ⟨rfl,hw1⟩;subst w1) | (go_at_call 119;(with_reducible refine HN1.out.mono ?_);rintro e w3 ⟨rfl,hb3⟩;have HB3:=Hd hb3;clear hb3))
   go_ret
   exact ⟨rfl,HB3.out⟩
 | .base c,w,_,hr,_=>by
   have HK:=Hd (fun w=>refKind_ok (.base c) w)
   have hne:headT (.base c) ≠ 83 ∧ headT (.base c) ≠ 97:=by rcases base_six hr with rfl | rfl | rfl | rfl | rfl | rfl <;> decide
   have t1:(((headT (.base c)).toNat:Int) == 83) = false:=(byte_ne hne.1 rfl).1
   have t2:(((headT (.base c)).toNat:Int) == 97) = false:=(byte_ne hne.2 rfl).1
   rw [show thereS L (.base c) = true by simp [thereS]]
   generalize tyB (.base c) = s at *
   generalize headT (.base c) = h at *
   clear hr hne
   go_enter Tryz.func116,Tryz.ntmps116
   go_wp2_with (go_at_call 93;(with_reducible refine (HK.out _).mono ?_);rintro e w1 ⟨rfl,hw1⟩;subst w1)
   go_ret
   exact ⟨rfl,Below.refl _ _⟩
 | .ptr u,w,_,_,_=>by
   have HK:=Hd (fun w=>kind_is 112 (.ptr u) w rfl)
   rw [show thereS L (.ptr u) = true by simp [thereS]]
   generalize tyB (.ptr u) = s at *
   go_enter Tryz.func116,Tryz.ntmps116
   go_wp2_with (go_at_call 93;(with_reducible refine (HK.out _).mono ?_);rintro e w1 ⟨rfl,hw1⟩;subst w1)
   go_ret
   exact ⟨rfl,Below.refl _ _⟩
 | .fn ps r,w,_,_,_=>by
   have HK:=Hd (fun w=>kind_is 102 (.fn ps r) w rfl)
   rw [show thereS L (.fn ps r) = true by simp [thereS]]
   generalize tyB (.fn ps r) = s at *
   go_enter Tryz.func116,Tryz.ntmps116
   go_wp2_with (go_at_call 93;(with_reducible refine (HK.out _).mono ?_);rintro e w1 ⟨rfl,hw1⟩;subst w1)
   go_ret
   exact ⟨rfl,Below.refl _ _⟩
set_option maxHeartbeats 1000000 in
theorem refUp_ok (n a:Nat) (hn:n ≤ 8388608) (h1:1 ≤ a) (h4:a ≤ 4) (w:World):Calls Tryz.prog 120 #[.int .i64 (n:Int),.int .i64 (a:Int)] w fun e w'=>e = .returned (.int .i64 (fitN n a:Nat)) ∧ w' = w:=by
 have hfin:=Hd (show fitN n a = (n + a - 1) / a * a from rfl)
 have hb:=fit_bd n a h1 h4
 have:a = 1 ∨ a = 2 ∨ a = 3 ∨ a = 4:=by omega
 generalize fitN n a = r at *
 rcases this with rfl | rfl | rfl | rfl
 all_goals
  go_enter Tryz.func120,Tryz.ntmps120
  go_wp2_with fail
  go_ret
  refine ⟨ret_i64 ?_,rfl⟩
  have:=hfin.out
  omega
end Go.Proofs.YtbbaooeioogijaaGreatDoor
namespace Go.Proofs.YtbbaooeioogijaaGreatDoor
open Go.RowKit
def SizeC (K:List Kn) (L:List Sr) (a:Option Addr) (cap:Nat) (mv:List Value) (t:Ty):Prop:=∀ w,IsSrs w.heap.size w a L mv →
 Calls Tryz.prog 88 #[.string (tyB t),.slice a L.length cap] w fun e w'=>e = .returned (.tuple #[.int .i64 (cutN (measT K t).1:Nat),.int .i64 ((measT K t).2:Nat)]) ∧ Below w.heap.size w w'
theorem cut_le (n:Nat):cutN n ≤ 65537:=by unfold cutN;omega
theorem size_end {K:List Kn} {t:Ty} {x y:Int} {w w':World} (hx:x = (cutN (measT K t).1:Nat)) (hy:y = ((measT K t).2:Nat)) (hb:Below w.heap.size w w') :
 Ending.returned (.tuple #[.int .i64 x,.int .i64 y]) = .returned (.tuple #[.int .i64 (cutN (measT K t).1:Nat),.int .i64 ((measT K t).2:Nat)]) ∧ Below w.heap.size w w':=by subst hx hy;exact ⟨rfl,hb⟩
set_option maxHeartbeats 2000000 in
theorem size_plain (K:List Kn) (L:List Sr) (a:Option Addr) (cap:Nat) (mv:List Value) (t:Ty) (h97:headT t ≠ 97) (h83:headT t ≠ 83):SizeC K L a cap mv t:=by
 intro w _
 have HK:=Hd (fun w=>refKind_ok t w)
 have t4:(((headT t).toNat:Int) == 97) = false:=(byte_ne h97 rfl).1
 have t5:(((headT t).toNat:Int) == 83) = false:=(byte_ne h83 rfl).1
 have hm:(headT t = 99 ∧ measT K t = (1,1)) ∨ (headT t ≠ 99 ∧ headT t = 115 ∧ measT K t = (2,2)) ∨ (headT t ≠ 99 ∧ headT t ≠ 115 ∧ headT t = 106 ∧ measT K t = (64,4)) ∨ (headT t ≠ 99 ∧ headT t ≠ 115 ∧ headT t ≠ 106 ∧ measT K t = (4,4)):=by
  cases t with
  | base c=>
    by_cases h1:c = 99
    ·exact .inl ⟨h1,by rw [measT,if_pos h1]⟩
    ·by_cases h2:c = 115
     ·exact .inr (.inl ⟨h1,h2,by rw [measT,if_neg h1,if_pos h2]⟩)
     ·by_cases h3:c = 106
      ·exact .inr (.inr (.inl ⟨h1,h2,h3,by rw [measT,if_neg h1,if_neg h2,if_pos h3]⟩))
      ·exact .inr (.inr (.inr ⟨h1,h2,h3,by rw [measT,if_neg h1,if_neg h2,if_neg h3]⟩))
  | ptr u=>exact .inr (.inr (.inr ⟨by simp [headT],by simp [headT],by simp [headT],by rw [measT]⟩))
  | fn ps r=>exact .inr (.inr (.inr ⟨by simp [headT],by simp [headT],by simp [headT],by rw [measT]⟩))
  | arr n u=>exact absurd rfl h97
  | str s=>exact absurd rfl h83
 have fin:∀ n m:Nat,measT K t = (n,m) → n ≤ 65537 → Hid (∀ (x y:Int) (w':World),x = n → y = m → Below w.heap.size w w' → Ending.returned (.tuple #[.int .i64 x,.int .i64 y]) = .returned (.tuple #[.int .i64 (cutN (measT K t).1:Nat),.int .i64 ((measT K t).2:Nat)]) ∧ Below w.heap.size w w'):=fun n m e hn x y w' hx hy hb=>
  size_end (by rw [hx,e];unfold cutN;simp only;omega) (by rw [hy,e]) hb
 rcases hm with ⟨h1,hm⟩ | ⟨h1,h2,hm⟩ | ⟨h1,h2,h3,hm⟩ | ⟨h1,h2,h3,hm⟩
 case' inl=>
  have F:=fin _ _ hm (by decide)
  have t1:(((headT t).toNat:Int) == 99) = true:=(byte_eq h1 rfl).1
 case' inr.inl=>
  have F:=fin _ _ hm (by decide)
  have t1:(((headT t).toNat:Int) == 99) = false:=(byte_ne h1 rfl).1
  have t2:(((headT t).toNat:Int) == 115) = true:=(byte_eq h2 rfl).1
  clear h2
 case' inr.inr.inl=>
  have F:=fin _ _ hm (by decide)
  have t1:(((headT t).toNat:Int) == 99) = false:=(byte_ne h1 rfl).1
  have t2:(((headT t).toNat:Int) == 115) = false:=(byte_ne h2 rfl).1
  have t3:(((headT t).toNat:Int) == 106) = true:=(byte_eq h3 rfl).1
  clear h2 h3
 case' inr.inr.inr=>
  have F:=fin _ _ hm (by decide)
  have t1:(((headT t).toNat:Int) == 99) = false:=(byte_ne h1 rfl).1
  have t2:(((headT t).toNat:Int) == 115) = false:=(byte_ne h2 rfl).1
  have t3:(((headT t).toNat:Int) == 106) = false:=(byte_ne h3 rfl).1
  clear h2 h3
 all_goals
  clear fin hm h1 h97 h83
  generalize tyB t = s at *
  generalize headT t = c at *
  go_enter Tryz.func88,Tryz.ntmps88
  go_wp2_with (go_at_call 93;(with_reducible refine (HK.out _).mono ?_);rintro e w1 ⟨rfl,hw1⟩;subst w1)
  go_ret2
  exact F.out _ _ _ rfl rfl (Below.refl _ _)
set_option maxHeartbeats 2000000 in
theorem size_arr (K:List Kn) (L:List Sr) (a:Option Addr) (cap:Nat) (mv:List Value) (n:Nat) (u:Ty) (hr:Right (.arr n u)) (hl:(code (.arr n u)).length ≤ 65536) (ih:SizeC K L a cap mv u):SizeC K L a cap mv (.arr n u):=by
 intro w hS
 have HS:=Hd hS
 have HK:=Hd (fun w=>kind_is 97 (.arr n u) w rfl)
 have HIn:=Hd (fun w=>refInner_arr n u hr hl w)
 have HI:=Hd ih
 have hn:n ≤ 1099511627776:=hr.1
 have hm:cutN (measT K (.arr n u)).1 = min (cutN (measT K u).1 * n) 65537:=by
  rw [measT]
  unfold cutN
  rw [Nat.mul_comm (min (measT K u).1 65537) n]
  exact (cut_mul (M:=65537) (by decide)).symm
 have hal:(measT K (.arr n u)).2 = (measT K u).2:=by rw [measT]
 have hc:=cut_le (measT K u).1
 have hmul:cutN (measT K u).1 * n ≤ 65537 * 1099511627776:=Nat.mul_le_mul hc hn
 unfold SizeC at HI
 rw [hm,hal]
 generalize tyB (.arr n u) = s at *
 generalize cutN (measT K u).1 = c at *
 generalize (measT K u).2 = al at *
 have hw:IntKind.i64.wrap ((c:Int) * (n:Int)) = (c:Int) * (n:Int):=IntWalk.i64_in _ (by
  have:(c:Int) * (n:Int) = ((c * n:Nat):Int):=by rw [Int.natCast_mul]
  rw [this];omega)
 have HM:=Hd (show (((min (c * n) 65537:Nat)):Int) = min ((c:Int) * (n:Int)) 65537 by
  rw [← Int.natCast_mul];omega)
 have hx0:0 ≤ (c:Int) * (n:Int):=by rw [← Int.natCast_mul];omega
 clear hr hl hS ih hm hal hmul
 go_enter Tryz.func88,Tryz.ntmps88
 go_wp2_with (first | (go_at_call 93;(with_reducible refine (HK.out _).mono ?_);rintro e w1 ⟨rfl,hw1⟩;subst w1) | (go_at_call 118;(with_reducible refine (HIn.out _).mono ?_);rintro e w3 ⟨rfl,hb3⟩;have HB3:=Hd hb3;have HG:=Hd (HI.out w3 ((HS.out.below hb3).mono hb3.size));clear hb3) | (go_at_call 88;(with_reducible refine HG.out.mono ?_);rintro e w4 ⟨rfl,hb4⟩;have HB4:=Ht HB3 hb4;clear hb4))
 go_ret2
 exact ⟨by rw [HM.out];rfl,HB4.out⟩
theorem mem_text {m:ByteArray × ByteArray} {t:Ty} (h:tyS m.2 = some t):m.2 = tyB t ∧ Right t ∧ (code t).length ≤ 65536:=tyS_some.1 h
set_option maxHeartbeats 8000000 in
set_option maxRecDepth 100000 in
theorem size_str (K:List Kn) (L:List Sr) (a:Option Addr) (cap:Nat) (mv:List Value) (hG:GoodK K) (hKL:K.map Kn.toSr = L) (s:List UInt8) (j:Nat) (hj:findK K s = some j) (hl:(code (.str s)).length ≤ 65536)
 (ih:∀ t,Right t → (code t).length ≤ 65536 → thereT (K.take j) t = true → SizeC K L a cap mv t):SizeC K L a cap mv (.str s):=by
 intro w hS
 have hlt:j < K.length:=find_lt hj
 have hLl:L.length = K.length:=by rw [← hKL,List.length_map]
 have hlL:j < L.length:=by omega
 have hlm:j < mv.length:=by rw [hS.len];omega
 have hLj:L[j] = K[j].toSr:=by simp [← hKL]
 have hL65:(L.length:Int) ≤ 65:=by have:=hG.len;omega
 have HN:=Hd (show ∀ w,IsSrs w.heap.size w a L mv → Calls Tryz.prog 119 #[.string (tyB (.str s)),.slice a L.length cap] w fun e w'=>e = .returned (.int .i64 (j:Int)) ∧ Below w.heap.size w w' from fun w hS=>by
  have:=refNamed_ok s a cap L mv w hS hl (by omega)
  rw [← hKL,placeS_map,hKL] at this
  rw [show placeK K s = (j:Int) by unfold placeK;rw [hj]] at this
  exact this)
 have HK:=Hd (fun w=>kind_is 83 (.str s) w rfl)
 obtain ⟨hmo,n0,hn0,hsz⟩:=hG.mems j hlt
 have hal:=hG.al _ (List.getElem_mem hlt)
 have hml:=hG.mlen _ (List.getElem_mem hlt)
 rw [meas_str hj]
 simp only
 obtain ⟨bb,off,ha,hbl,hrow⟩:=hS.at_ (fun e=>by rw [e] at hlL;simp at hlL)
 obtain ⟨e1,e2,hms⟩:=hrow j _ _ (List.getElem?_eq_getElem hlL) (List.getElem?_eq_getElem hlm)
 rw [hLj] at e1 hms
 have hKa:∀ k ∈ K.take j,1 ≤ k.align ∧ k.align ≤ 4:=fun k hk=>hG.al k (List.mem_of_mem_take hk)
 have IH:=Hd (show ∀ m ∈ K[j].mems,∃ t,tyS m.2 = some t ∧ (1 ≤ (measT (K.take j) t).2 ∧ (measT (K.take j) t).2 ≤ 4) ∧ ∀ w,IsSrs w.heap.size w a L mv → Calls Tryz.prog 88 #[.string m.2,.slice a L.length cap] w fun e w'=>e = .returned (.tuple #[.int .i64 (cutN (measT (K.take j) t).1:Nat),.int .i64 ((measT (K.take j) t).2:Nat)]) ∧ Below w.heap.size w w' from fun m hm=>by
  obtain ⟨t,ht,hc,_⟩:=hmo m hm
  obtain ⟨h1,h2,h3⟩:=mem_text ht
  have hth:=(check_there hc).1
  refine ⟨t,ht,meas_align hKa t,fun w hS=>?_⟩
  have:=ih t h2 h3 hth w hS
  rw [← h1,← meas_take hth] at this
  exact this)
 have HMo:=Hd hmo
 have HA0:=Hd (fun i=>memR_align hKa (K[j].mems.take i) 0 1 ⟨Nat.le_refl _,by decide⟩)
 generalize K[j].name = nm at *
 generalize K[j].mems = ms at *
 generalize K[j].size = sz at *
 generalize K[j].align = al at *
 generalize K.take j = K' at *
 generalize mv[j] = v at *
 obtain ⟨am,cm,rfl,hmr⟩:=hms
 have HMr:=Hd hmr
 have HS:=Hd hS
 have HN0:=Hd hn0
 have HSz:=Hd hsz
 clear hS hrow hLj hlm hKa hmo ih hmr hn0 hsz hG hKL hj hLl
 subst ha
 generalize tyB (.str s) = st at *
 have hms64:(ms.length:Int) ≤ 64:=by omega
 clear hl hml
 go_enter Tryz.func88,Tryz.ntmps88
 go_wp2_with (first | (go_at_call 93;(with_reducible refine (HK.out _).mono ?_);rintro e w1 ⟨rfl,hw1⟩;subst w1) | (go_at_call 119;(with_reducible refine (HN.out _ HS.out).mono ?_);rintro e w2 ⟨rfl,hb2⟩;have HB2:=Hd hb2;rw [← hb2.cell hbl] at e1 e2;clear hb2))
 have hm2:(w2.alloc (.cells #[.string nm,.slice am ms.length cm] 61)).heap[w2.heap.size]? = some (.cells #[.string nm,.slice am ms.length cm] 61 (0,0)):=heap_alloc_new _ _
 have hbc:Below w.heap.size w (w2.alloc (.cells #[.string nm,.slice am ms.length cm] 61)):=HB2.out.alloc HB2.out.size _
 generalize w2.alloc (.cells #[.string nm,.slice am ms.length cm] 61) = wc at *
 have HM2:=Hd hm2
 have HBc:=Hd hbc
 have hz2:=lt_of_heap hm2
 clear hm2 hbc e1 e2
 go_loopg [10,11,13] ms.length (fun g v10 v11 v13 wy=>∃ (i n al':Nat),i ≤ ms.length ∧ i + g = ms.length ∧ v13 = .int .i64 (i:Int) ∧ v10 = .int .i64 (cutN n:Nat) ∧ v11 = .int .i64 (al':Nat) ∧ Hid (memR K' (ms.take i) 0 1 = (n,al')) ∧ Hid (Below wc.heap.size wc wy))
 case atStart=>exact ⟨0,0,1,Nat.zero_le _,by omega,rfl,rfl,rfl,rfl,Below.refl _ _⟩
 case round=>
  obtain ⟨i,n,al',hi,hig,rfl,rfl,rfl,hR,HB⟩:=hrel
  have hcell:=(HB.out.block _ hz2).trans HM2.out
  obtain ⟨⟨d0,d1⟩,_⟩:=two_block hcell
  have hal':=HA0.out i
  rw [hR.out] at hal'
  simp only at hal'
  have hcn:=cut_le n
  by_cases hil:i < ms.length
  ·obtain ⟨mb,moff,rfl,hmb,hmrow⟩:=HMr.out (fun e=>by rw [e] at hil;simp at hil)
   obtain ⟨c1,c2⟩:=hmrow i _ (List.getElem?_eq_getElem hil)
   have HBw:=Hd (HBc.out.trans (HB.out.mono HBc.out.size))
   rw [← HBw.out.cell hmb] at c1 c2
   obtain ⟨t,ht,⟨ha1,ha4⟩,hsize⟩:=IH.out _ (List.getElem_mem hil)
   have htk:ms.take (i + 1) = ms.take i ++ [ms[i]]:=by rw [List.take_add_one,List.getElem?_eq_getElem hil];rfl
   have hR2:memR K' (ms.take (i + 1)) 0 1 = (fitN n (measT K' t).2 + (measT K' t).1,max al' (measT K' t).2):=by
    rw [htk,memR_snoc (fun m hm=>HMo.out m (List.mem_of_mem_take hm)) ht,hR.out]
   have HSc:=Hd (hsize _ ((HS.out.below HBw.out).mono HBw.out.size))
   have hcm:=cut_le (measT K' t).1
   have HC:=Hd (memR_cut (n:=n) (m:=cutN n) (b:=(measT K' t).1) (a:=(measT K' t).2) rfl (by omega))
   have HUp:=Hd (fun w=>refUp_ok (cutN n) (measT K' t).2 (by omega) ha1 ha4 w)
   have hfb:=fit_bd (cutN n) (measT K' t).2 ha1 ha4
   generalize (measT K' t).1 = m1 at *
   generalize (measT K' t).2 = a1 at *
   have HR2:=Hd hR2
   generalize ms[i]'hil = mi at *
   obtain ⟨mn,mt⟩:=mi
   simp only at c1 c2 HSc
   have HX:=Hd (show ((cutN (fitN n a1 + m1):Nat):Int) = min ((fitN (cutN n) a1:Nat) + (cutN m1:Nat):Int) 65537 by
    rw [← HC.out];unfold cutN;omega)
   have hx1:((fitN (cutN n) a1:Nat):Int) ≤ 70000:=by omega
   have hx2:((cutN m1:Nat):Int) ≤ 65537:=by omega
   have HY:=Hd (show (((max al' a1:Nat)):Int) = max (al':Int) (a1:Int) by omega)
   generalize fitN (cutN n) a1 = fc at *
   generalize cutN m1 = cm1 at *
   generalize cutN n = cn at *
   clear hmrow ht hsize htk hR2 hR hcell hfb
   go_wp2_with (first | (go_at_call 88;(with_reducible refine HSc.out.mono ?_);rintro e w3 ⟨rfl,hb3⟩;have HB3:=Ht HB hb3;clear hb3) | (go_at_call 120;(with_reducible refine (HUp.out _).mono ?_);rintro e w4 ⟨rfl,hw4⟩;subst w4))
   go_roundg (ms.length - (i + 1))
   case measure=>omega
   case rel=>exact ⟨i + 1,_,_,by omega,by omega,by rw [Int.natCast_add];rfl,by rw [HX.out],by rw [HY.out],HR2.out,HB3⟩
  ·obtain rfl:i = ms.length:=by omega
   have t3:(ms.length:Int) ≤ (ms.length:Int):=Int.le_refl _
   have hRe:=hR.out
   rw [List.take_length,HN0.out] at hRe
   obtain ⟨rfl,rfl⟩:=Prod.mk.inj hRe
   have HUp:=Hd (fun w=>refUp_ok (cutN n0) al (by omega) hal.1 hal.2 w)
   have HX:=Hd (show ((cutN sz:Nat):Int) = min ((fitN (cutN n0) al:Nat):Int) 65537 by
    have:=cut_fit0 (c:=cutN n0) (x:=n0) (a:=al) (M:=65537) rfl hal.1
    rw [HSz.out]
    unfold cutN at *
    omega)
   have HB4:=Hd (HBc.out.trans (HB.out.mono HBc.out.size))
   clear hR hRe hcell
   go_wp2_with (go_at_call 120;(with_reducible refine (HUp.out _).mono ?_);rintro e w4 ⟨rfl,hw4⟩;subst w4)
   go_ret2
   exact ⟨by rw [HX.out];rfl,HB4.out⟩
theorem refSize_ok (K:List Kn) (L:List Sr) (a:Option Addr) (cap:Nat) (mv:List Value) (hG:GoodK K) (hKL:K.map Kn.toSr = L):∀ (m n:Nat) (t:Ty),(code t).length ≤ n → Right t → (code t).length ≤ 65536 → thereT (K.take m) t = true → SizeC K L a cap mv t
 | _,0,t,hn,hr,_,_=>by have:=code_pos hr;omega
 | m,n + 1,t,hn,hr,hl,hth=>by
   cases t with
   | base c=>exact size_plain K L a cap mv _ (by rcases base_six hr with rfl | rfl | rfl | rfl | rfl | rfl <;> decide) (by rcases base_six hr with rfl | rfl | rfl | rfl | rfl | rfl <;> decide)
   | ptr u=>exact size_plain K L a cap mv _ (by simp [headT]) (by simp [headT])
   | fn ps r=>exact size_plain K L a cap mv _ (by simp [headT]) (by simp [headT])
   | arr k u=>exact size_arr K L a cap mv k u hr hl (refSize_ok K L a cap mv hG hKL m n u (by rw [code] at hn;simp at hn;omega) hr.2 (by rw [code] at hl;simp at hl;omega) (by rw [thereT] at hth;exact hth))
   | str s=>
     rw [thereT,Option.isSome_iff_exists] at hth
     obtain ⟨j,hj⟩:=hth
     obtain ⟨h1,h2⟩:=findK_take hj
     exact size_str K L a cap mv hG hKL s j h1 hl fun t hr' hl' hth'=>refSize_ok K L a cap mv hG hKL j 65536 t hl' hr' hl' hth'
termination_by m n=>(m,n)
end Go.Proofs.YtbbaooeioogijaaGreatDoor
namespace Go.Proofs.YtbbaooeioogijaaGreatDoor
open Go.RowKit
def bigT (K:List Kn) (t:Ty):Bool:=objectT t && (thereT K t && decide (65536 < (measT K t).1))
theorem sized_is {K:List Kn} (hF:FitK K) (t:Ty):sizedT K t = (!bigT K t && (partsT t).all (sizedT K)):=by
 cases t with
 | base c=>
   have:(measT K (.base c)).1 ≤ 64:=by
    rw [measT];repeat' split
    all_goals decide
   rw [sizedT,bigT,decide_eq_false (by omega)];simp [partsT]
 | ptr u=>rw [sizedT,bigT,measT];simp [partsT]
 | str s=>
   have:(measT K (.str s)).1 ≤ 65536:=by
    rw [measT]
    split
    ·rename_i k hk
     obtain ⟨i,_,hi⟩:=Option.bind_eq_some_iff.1 hk
     exact (hF.2 k (List.mem_of_getElem? hi)).1
    ·decide
   rw [sizedT,bigT,decide_eq_false (by omega)];simp [partsT]
 | fn ps r=>rw [sizedT,bigT,sizeds_all];simp [partsT,objectT,isFnT,Bool.and_comm]
 | arr n u=>
   rw [sizedT,bigT,thereT,measT]
   simp only [partsT,List.all_cons,List.all_nil,Bool.and_true,objectT,isVoidT,isFnT]
   cases sizedT K u <;> cases thereT K u <;> simp
   by_cases h:n * (measT K u).1 ≤ 65536
   ·rw [decide_eq_true h,decide_eq_false (by omega)];rfl
   ·rw [decide_eq_false h,decide_eq_true (by omega)];rfl
def GreatC (K:List Kn) (L:List Sr) (a:Option Addr) (cap:Nat) (mv:List Value) (t:Ty):Prop:=∀ w,IsSrs w.heap.size w a L mv →
 Calls Tryz.prog 117 #[.string (tyB t),.slice a L.length cap] w fun e w'=>e = .returned (.bool (!sizedT K t)) ∧ Below w.heap.size w w'
theorem all_no {α:Type} {f:α → Bool} {l:List α} {p:α} (h:p ∈ l) (hs:f p = false):l.all f = false:=by
 rw [List.all_eq_false];exact ⟨p,h,by simp [hs]⟩
set_option maxHeartbeats 8000000 in
set_option maxRecDepth 100000 in
theorem great_step (K:List Kn) (L:List Sr) (a:Option Addr) (cap:Nat) (mv:List Value) (hG:GoodK K) (hF:FitK K) (hKL:K.map Kn.toSr = L) (t:Ty) (hr:Right t) (hl:(code t).length ≤ 65536) (ih:∀ p ∈ partsT t,GreatC K L a cap mv p):GreatC K L a cap mv t:=by
 intro w hS
 have hLl:(L.length:Int) ≤ 1000:=by rw [← hKL,List.length_map];have:=hG.len;omega
 have HS:=Hd hS
 have HO:=Hd (fun w=>refObject_ok t hr w)
 have HGv:=Hd (show ∀ w,IsSrs w.heap.size w a L mv → Calls Tryz.prog 116 #[.string (tyB t),.slice a L.length cap] w fun e w'=>e = .returned (.bool (thereT K t)) ∧ Below w.heap.size w w' from fun w hS=>by
  have:=refGiven_ok a cap L mv hLl t w hS hr hl
  rw [← hKL,thereS_map,hKL] at this
  exact this)
 have HSz:=Hd (show thereT K t = true → SizeC K L a cap mv t from fun hth=>refSize_ok K L a cap mv hG hKL K.length _ t (Nat.le_refl _) hr hl (by rw [List.take_length];exact hth))
 have HPt:=Hd (fun w=>refParts_ok t hr hl w)
 have hpl:=parts_len t hr
 have hsd:=sized_is hF t
 have HM:=Hd ih
 have hll:((partsT t).length:Int) ≤ 65536:=by omega
 unfold SizeC at HSz
 unfold GreatC at HM
 generalize partsT t = l at *
 generalize tyB t = s at *
 clear hS ih hpl hr hl hG hF hKL
 by_cases hbig:objectT t = true ∧ thereT K t = true ∧ 65536 < (measT K t).1
 ·obtain ⟨h1,h2,h3⟩:=hbig
  have hfin:=Hd (show sizedT K t = false by rw [hsd,bigT,h1,h2,decide_eq_true h3];rfl)
  have HSz1:=Hd (HSz.out h2)
  rw [h1] at HO
  rw [h2] at HGv
  have hc:(65536:Int) < (cutN (measT K t).1:Nat):=by unfold cutN;omega
  generalize cutN (measT K t).1 = c at *
  generalize (measT K t).2 = al at *
  clear hsd h1 h2 h3 HSz
  go_enter Tryz.func117,Tryz.ntmps117
  go_wp2_with (first | (go_at_call 87;(with_reducible refine (HO.out _).mono ?_);rintro e w1 ⟨rfl,hw1⟩;subst w1;have HG1:=Hd (HGv.out w HS.out)) | (go_at_call 116;(with_reducible refine HG1.out.mono ?_);rintro e w3 ⟨rfl,hb3⟩;have HB3:=Hd hb3;have HZ:=Hd (HSz1.out w3 ((HS.out.below hb3).mono hb3.size));clear hb3) | (go_at_call 88;(with_reducible refine HZ.out.mono ?_);rintro e w4 ⟨rfl,hb4⟩;have HB4:=Ht HB3 hb4;clear hb4))
  go_ret
  exact ⟨by rw [hfin.out];rfl,HB4.out⟩
 ·have HEq:=Hd (show sizedT K t = l.all (sizedT K) by
   rw [hsd,bigT]
   rcases h1:objectT t with _ | _
   ·rfl
   ·rcases h2:thereT K t with _ | _
    ·rfl
    ·rw [decide_eq_false (fun h=>hbig ⟨h1,h2,h⟩)];rfl)
  have hT:objectT t = false ∨ (objectT t = true ∧ thereT K t = false) ∨ (objectT t = true ∧ thereT K t = true ∧ (measT K t).1 ≤ 65536):=by
   rcases h1:objectT t with _ | _
   ·exact .inl rfl
   ·rcases h2:thereT K t with _ | _
    ·exact .inr (.inl ⟨rfl,rfl⟩)
    ·exact .inr (.inr ⟨rfl,rfl,by have:¬ 65536 < (measT K t).1:=fun h=>hbig ⟨h1,h2,h⟩;omega⟩)
  clear hbig hsd
  rcases hT with h1 | ⟨h1,h2⟩ | ⟨h1,h2,h3⟩
  case' inl=>
   rw [h1] at HO
   clear h1
   go_enter Tryz.func117,Tryz.ntmps117
   go_upto_region 5 with (go_at_call 87;(with_reducible refine (HO.out _).mono ?_);rintro e w1 ⟨rfl,hw1⟩;subst w1)
   have HBq:=Hd (Below.refl w.heap.size w)
   obtain ⟨wq,hwq⟩:∃ wq,wq = w:=⟨_,rfl⟩
   rw [show Below w.heap.size w w ↔ Below w.heap.size w wq by rw [hwq]] at HBq
  case' inr.inl=>
   rw [h1] at HO
   rw [h2] at HGv
   clear h1 h2
   go_enter Tryz.func117,Tryz.ntmps117
   go_upto_region 5 with (first | (go_at_call 87;(with_reducible refine (HO.out _).mono ?_);rintro e w1 ⟨rfl,hw1⟩;subst w1;have HG1:=Hd (HGv.out w HS.out)) | (go_at_call 116;(with_reducible refine HG1.out.mono ?_);rintro e w3 ⟨rfl,hb3⟩;have HBq:=Hd hb3;clear hb3))
   obtain ⟨wq,hwq⟩:∃ wq,wq = w3:=⟨_,rfl⟩
   rw [← hwq] at HBq
  case' inr.inr=>
   have HSz1:=Hd (HSz.out h2)
   rw [h1] at HO
   rw [h2] at HGv
   have hc:((cutN (measT K t).1:Nat):Int) ≤ 65536:=by unfold cutN;omega
   generalize cutN (measT K t).1 = c at *
   generalize (measT K t).2 = al at *
   clear h1 h2 h3
   go_enter Tryz.func117,Tryz.ntmps117
   go_upto_region 5 with (first | (go_at_call 87;(with_reducible refine (HO.out _).mono ?_);rintro e w1 ⟨rfl,hw1⟩;subst w1;have HG1:=Hd (HGv.out w HS.out)) | (go_at_call 116;(with_reducible refine HG1.out.mono ?_);rintro e w3 ⟨rfl,hb3⟩;have HB3:=Hd hb3;have HZ:=Hd (HSz1.out w3 ((HS.out.below hb3).mono hb3.size));clear hb3) | (go_at_call 88;(with_reducible refine HZ.out.mono ?_);rintro e w4 ⟨rfl,hb4⟩;have HBq:=Ht HB3 hb4;clear hb4))
   obtain ⟨wq,hwq⟩:∃ wq,wq = w4:=⟨_,rfl⟩
   rw [← hwq] at HBq
  all_goals
   rw [← hwq]
   clear hwq
   have HPc:=Hd (HPt.out wq)
   go_wp2_with (go_at_call 138;(with_reducible refine HPc.out.mono ?_);rintro e w2 ⟨⟨v,rfl,ho⟩,hb2⟩;have HB2:=Ht HBq hb2;obtain ⟨a2,cap2,rfl,hc⟩:=own_formT ho;have HC:=Hd hc;clear hb2 ho hc)
   go_loopg [8] l.length (fun g v8 wy=>∃ k:Nat,k ≤ l.length ∧ k + g = l.length ∧ v8 = .int .i64 (k:Int) ∧ Hid ((l.take k).all (sizedT K) = true) ∧ Hid (Below w2.heap.size w2 wy))
   case atStart=>exact ⟨0,Nat.zero_le _,by omega,rfl,rfl,Below.refl _ _⟩
   case round=>
    obtain ⟨k,hk,hkg,rfl,hall,HB⟩:=hrel
    by_cases hlt:k < l.length
    ·obtain ⟨g,rfl,_,hg2,hrow⟩:=HC.out (by omega)
     have e1:wr.cell? ⟨g,k,none⟩ = some (.string (tyB l[k])):=by
      rw [HB.out.cell (p:=⟨g,k,none⟩) hg2]
      exact hrow k _ (by rw [List.getElem?_map,List.getElem?_eq_getElem hlt];rfl)
     have HBr:=Hd (HB2.out.trans (HB.out.mono HB2.out.size))
     have HCl:=Hd (HM.out _ (List.getElem_mem hlt) wr ((HS.out.below HBr.out).mono HBr.out.size))
     have htk:l.take (k + 1) = l.take k ++ [l[k]]:=by rw [List.take_add_one,List.getElem?_eq_getElem hlt];rfl
     rcases hsh:sizedT K l[k] with _ | _
     ·have hfin:=Hd (show sizedT K t = false by rw [HEq.out];exact all_no (List.getElem_mem hlt) hsh)
      rw [hsh] at HCl
      clear hrow hsh htk
      generalize tyB (l[k]'hlt) = tp at *
      go_wp2_with (go_at_call 117;(with_reducible refine HCl.out.mono ?_);rintro e w3 ⟨rfl,hb3⟩;have HB3:=Ht HBr hb3;clear hb3)
      go_ret
      exact ⟨by rw [hfin.out];rfl,HB3.out⟩
     ·have hal2:=Hd (show (l.take (k + 1)).all (sizedT K) = true by rw [htk,List.all_append,hall.out];simp [hsh])
      rw [hsh] at HCl
      clear hrow hsh htk
      generalize tyB (l[k]'hlt) = tp at *
      go_wp2_with (go_at_call 117;(with_reducible refine HCl.out.mono ?_);rintro e w3 ⟨rfl,hb3⟩;have HB3:=Ht HB hb3;clear hb3)
      go_roundg (l.length - (k + 1))
      case measure=>omega
      case rel=>exact ⟨k + 1,by omega,by omega,by rw [Int.natCast_add];rfl,hal2,HB3⟩
    ·obtain rfl:k = l.length:=by omega
     have t9:(l.length:Int) ≤ (l.length:Int):=Int.le_refl _
     have hfin:=Hd (show sizedT K t = true by rw [HEq.out];have:=hall.out;rwa [List.take_length] at this)
     have HBr:=Hd (HB2.out.trans (HB.out.mono HB2.out.size))
     go_wp2_with fail
     go_ret
     exact ⟨by rw [hfin.out];rfl,HBr.out⟩
theorem refGreat_ok (K:List Kn) (L:List Sr) (a:Option Addr) (cap:Nat) (mv:List Value) (hG:GoodK K) (hF:FitK K) (hKL:K.map Kn.toSr = L):∀ (n:Nat) (t:Ty),(code t).length ≤ n → Right t → (code t).length ≤ 65536 → GreatC K L a cap mv t
 | 0,t,hn,hr,_=>by have:=code_pos hr;omega
 | n + 1,t,hn,hr,hl=>great_step K L a cap mv hG hF hKL t hr hl fun p hp=>by
   obtain ⟨h1,h2⟩:=parts_mem hp hr
   exact refGreat_ok K L a cap mv hG hF hKL n p (by omega) h1 (by omega)
end Go.Proofs.YtbbaooeioogijaaGreatDoor
namespace Go.Proofs.YtbbaooeioogijaaGreatDoor
open Go.RowKit
set_option maxHeartbeats 8000000 in
theorem refCheckT_ok (K:List Kn) (L:List Sr) (a:Option Addr) (cap:Nat) (mv:List Value) (hG:GoodK K) (hF:FitK K) (hKL:K.map Kn.toSr = L) (s:ByteArray) (w:World) (hS:IsSrs w.heap.size w a L mv) :
 Calls Tryz.prog 86 #[.string s,.slice a L.length cap] w fun e w'=>e = .returned (.int .i64 (checkS K s)) ∧ Below w.heap.size w w':=by
 have HS:=Hd hS
 rcases ht:tyS s with _ | t
 ·have HFm:=Hd (refForm_is false s w (by rw [ht];rfl))
  have hfin:=Hd (checkS_none (K:=K) ht)
  clear ht hS
  go_enter Tryz.func86,Tryz.ntmps86
  go_wp2_with (go_at_call 92;(with_reducible refine HFm.out.mono ?_);rintro e w1 ⟨rfl,hb1⟩;have HB1:=Hd hb1;clear hb1)
  go_ret
  exact ⟨by rw [hfin.out];rfl,HB1.out⟩
 have HFm:=Hd (refForm_is true s w (by rw [ht];rfl))
 have hck:=checkS_some (K:=K) ht
 obtain ⟨rfl,hr,hl⟩:=tyS_some.1 ht
 have hLl:(L.length:Int) ≤ 1000:=by rw [← hKL,List.length_map];have:=hG.len;omega
 have HD:=Hd (fun w=>show Calls Tryz.prog 114 #[.string (tyB t),.int .i64 48] w fun e w'=>e = .returned (.int .i64 (min (deepT t) 50:Nat)) ∧ Below w.heap.size w w' from deep_ok 49 (by decide) t w hr hl)
 have HSh:=Hd (fun w=>refShape_ok _ t (Nat.le_refl _) hr hl w)
 have HGv:=Hd (show ∀ w,IsSrs w.heap.size w a L mv → Calls Tryz.prog 116 #[.string (tyB t),.slice a L.length cap] w fun e w'=>e = .returned (.bool (thereT K t)) ∧ Below w.heap.size w w' from fun w hS=>by
  have:=refGiven_ok a cap L mv hLl t w hS hr hl
  rw [← hKL,thereS_map,hKL] at this
  exact this)
 have HGr:=Hd (refGreat_ok K L a cap mv hG hF hKL _ t (Nat.le_refl _) hr hl)
 unfold GreatC at HGr
 have hcT:checkT K t = if 48 < deepT t then 3 else if shapeT t = false then 5 else if thereT K t = false then 4 else if sizedT K t = false then 3 else 0:=rfl
 rw [hcT] at hck
 generalize tyB t = s at *
 clear ht hr hl hG hF hKL hS hcT
 by_cases h48:48 < deepT t
 ·rw [if_pos h48] at hck
  have hfin:=Hd hck
  have t1:(48:Int) < (min (deepT t) 50:Nat):=by omega
  generalize min (deepT t) 50 = d at *
  clear hck h48
  go_enter Tryz.func86,Tryz.ntmps86
  go_wp2_with (first | (go_at_call 92;(with_reducible refine HFm.out.mono ?_);rintro e w1 ⟨rfl,hb1⟩;have HB1:=Hd hb1;clear hb1) | (go_at_call 114;(with_reducible refine (HD.out _).mono ?_);rintro e w2 ⟨rfl,hb2⟩;have HB2:=Ht HB1 hb2;clear hb2))
  go_ret
  exact ⟨by rw [hfin.out];rfl,HB2.out⟩
 rw [if_neg h48] at hck
 have t1:((min (deepT t) 50:Nat):Int) ≤ 48:=by omega
 generalize min (deepT t) 50 = d at *
 rcases h1:shapeT t with _ | _
 ·have hfin:=Hd (hck.trans (if_pos h1))
  rw [h1] at HSh
  clear hck h1 h48
  go_enter Tryz.func86,Tryz.ntmps86
  go_wp2_with (first | (go_at_call 92;(with_reducible refine HFm.out.mono ?_);rintro e w1 ⟨rfl,hb1⟩;have HB1:=Hd hb1;clear hb1) | (go_at_call 114;(with_reducible refine (HD.out _).mono ?_);rintro e w2 ⟨rfl,hb2⟩;have HB2:=Ht HB1 hb2;clear hb2) | (go_at_call 115;(with_reducible refine (HSh.out _).mono ?_);rintro e w3 ⟨rfl,hb3⟩;have HB3:=Ht HB2 hb3;clear hb3))
  go_ret
  exact ⟨by rw [hfin.out];rfl,HB3.out⟩
 rw [if_neg (by simp [h1])] at hck
 rw [h1] at HSh
 rcases h2:thereT K t with _ | _
 ·have hfin:=Hd (hck.trans (if_pos h2))
  rw [h2] at HGv
  clear hck h1 h2 h48
  go_enter Tryz.func86,Tryz.ntmps86
  go_wp2_with (first | (go_at_call 92;(with_reducible refine HFm.out.mono ?_);rintro e w1 ⟨rfl,hb1⟩;have HB1:=Hd hb1;clear hb1) | (go_at_call 114;(with_reducible refine (HD.out _).mono ?_);rintro e w2 ⟨rfl,hb2⟩;have HB2:=Ht HB1 hb2;clear hb2) | (go_at_call 115;(with_reducible refine (HSh.out _).mono ?_);rintro e w3 ⟨rfl,hb3⟩;have HB3:=Ht HB2 hb3;have HG3:=Hd (HGv.out w3 ((HS.out.below HB3.out).mono HB3.out.size));clear hb3) | (go_at_call 116;(with_reducible refine HG3.out.mono ?_);rintro e w4 ⟨rfl,hb4⟩;have HB4:=Ht HB3 hb4;clear hb4))
  go_ret
  exact ⟨by rw [hfin.out];rfl,HB4.out⟩
 rw [if_neg (by simp [h2])] at hck
 rw [h2] at HGv
 have hfin:=Hd (show checkS K s = if sizedT K t = false then 3 else 0 from hck)
 generalize sizedT K t = b at *
 clear hck h1 h2 h48
 cases b with
 | false=>
   go_enter Tryz.func86,Tryz.ntmps86
   go_wp2_with (first | (go_at_call 92;(with_reducible refine HFm.out.mono ?_);rintro e w1 ⟨rfl,hb1⟩;have HB1:=Hd hb1;clear hb1) | (go_at_call 114;(with_reducible refine (HD.out _).mono ?_);rintro e w2 ⟨rfl,hb2⟩;have HB2:=Ht HB1 hb2;clear hb2) | (go_at_call 115;(with_reducible refine (HSh.out _).mono ?_);rintro e w3 ⟨rfl,hb3⟩;have HB3:=Ht HB2 hb3;have HG3:=Hd (HGv.out w3 ((HS.out.below HB3.out).mono HB3.out.size));clear hb3) | (go_at_call 116;(with_reducible refine HG3.out.mono ?_);rintro e w4 ⟨rfl,hb4⟩;have HB4:=Ht HB3 hb4;have HG4:=Hd (HGr.out w4 ((HS.out.below HB4.out).mono HB4.out.size));clear hb4) | (go_at_call 117;(with_reducible refine HG4.out.mono ?_);rintro e w5 ⟨rfl,hb5⟩;have HB5:=Ht HB4 hb5;clear hb5))
   go_ret
   exact ⟨by rw [hfin.out];rfl,HB5.out⟩
 | true=>
   go_enter Tryz.func86,Tryz.ntmps86
   go_wp2_with (first | (go_at_call 92;(with_reducible refine HFm.out.mono ?_);rintro e w1 ⟨rfl,hb1⟩;have HB1:=Hd hb1;clear hb1) | (go_at_call 114;(with_reducible refine (HD.out _).mono ?_);rintro e w2 ⟨rfl,hb2⟩;have HB2:=Ht HB1 hb2;clear hb2) | (go_at_call 115;(with_reducible refine (HSh.out _).mono ?_);rintro e w3 ⟨rfl,hb3⟩;have HB3:=Ht HB2 hb3;have HG3:=Hd (HGv.out w3 ((HS.out.below HB3.out).mono HB3.out.size));clear hb3) | (go_at_call 116;(with_reducible refine HG3.out.mono ?_);rintro e w4 ⟨rfl,hb4⟩;have HB4:=Ht HB3 hb4;have HG4:=Hd (HGr.out w4 ((HS.out.below HB4.out).mono HB4.out.size));clear hb4) | (go_at_call 117;(with_reducible refine HG4.out.mono ?_);rintro e w5 ⟨rfl,hb5⟩;have HB5:=Ht HB4 hb5;clear hb5))
   go_ret
   exact ⟨by rw [hfin.out];rfl,HB5.out⟩
end Go.Proofs.YtbbaooeioogijaaGreatDoor
