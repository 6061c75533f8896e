/- The reference's reading of a type: arrays. -/
import Derived.Test.YtbbaooeioogijaaGreatDoorMg7
namespace Go.Proofs.YtbbaooeioogijaaGreatDoor
open Go.RowKit
theorem run_cut {L u r:List UInt8} {m:Nat} (hc:cutAt 58 L = some (u,r)) (hn:numT u = some m):runN L = u.length ∧ L.take (runN L) = u ∧ L.drop (runN L) = 58 :: r:=by
 obtain ⟨hL,_⟩:=cutAt_some hc
 obtain ⟨hu,_⟩:=numT_some hn
 have hall:u.all digB = true:=by rw [hu];exact (dec_digits m).1
 have h1:runN L = u.length:=by
  rw [hL]
  exact runN_app hall (fun c hc=>by obtain rfl:=Option.some.inj hc;rfl)
 exact ⟨h1,by rw [h1,hL,List.take_left],by rw [h1,hL,List.drop_left]⟩
theorem arr_read (n:Nat) (L:List UInt8):((cutAt 58 L).bind fun q=>(numT q.1).bind fun m=>(tyF n q.2).map fun x=>(Ty.arr m x.1,x.2)) =
 (numT (L.take (runN L))).bind fun m=>match L.drop (runN L) with
   | 58 :: r=>(tyF n r).map fun x=>(Ty.arr m x.1,x.2)
   | _=>none:=by
 rcases hc:cutAt 58 L with _ | ⟨u,r⟩
 ·have hno:=cutAt_none.1 hc
  simp only [Option.bind_none]
  cases numT (L.take (runN L)) with
  | none=>rfl
  | some m=>
    simp only [Option.bind_some]
    split
    ·rename_i r h
     exact absurd (by rw [← List.take_append_drop (runN L) L,h];simp) hno
    ·rfl
 ·simp only [Option.bind_some]
  rcases hn:numT u with _ | m
  ·simp only [Option.bind_none]
   rcases hm:numT (L.take (runN L)) with _ | m
   ·rfl
   ·simp only [Option.bind_some]
    split
    ·rename_i r' h
     obtain ⟨hd,_⟩:=numT_some hm
     have hall:(L.take (runN L)).all digB = true:=by rw [hd];exact (dec_digits m).1
     have hno:(58:UInt8) ∉ L.take (runN L):=fun h58=>by
      have:=List.all_eq_true.1 hall _ h58
      exact absurd this (by decide)
     have e:=cutAt_mk (r:=r') hno
     rw [← h,List.take_append_drop,hc] at e
     obtain ⟨rfl,_⟩:=Prod.mk.inj (Option.some.inj e)
     rw [hn] at hm;cases hm
    ·rfl
  ·obtain ⟨_,h2,h3⟩:=run_cut hc hn
   rw [h2,h3,hn]
   simp only [Option.bind_some]
set_option maxHeartbeats 4000000 in
set_option maxRecDepth 100000 in
theorem next_arr (n k:Nat) (s:ByteArray) (w:World) (hk:k < s.size) (hs:s.size ≤ 65536) (hc:s[k] = 97)
 (ih:∀ j w',k < j → j ≤ s.size → Calls Tryz.prog 122 #[.string s,.int .i64 (j:Int)] w' (NextP s (tyF n (sfx s j)) w')) :
 Calls Tryz.prog 122 #[.string s,.int .i64 (k:Int)] w (NextP s (tyF (n + 1) (sfx s k)) w):=by
 have ht0:tyF (n + 1) (sfx s k) = (cutAt 58 (sfx s (k + 1))).bind fun q=>(numT q.1).bind fun m=>(tyF n q.2).map fun x=>(Ty.arr m x.1,x.2):=by
  rw [sfx_cons s k hk,tyF,hc,if_neg (by decide),if_neg (by decide),if_pos rfl]
 have ht:=ht0.trans (arr_read n (sfx s (k + 1)))
 have hs':(s.size:Int) ≤ 65536:=by omega
 obtain ⟨v1,v2,v3,v4,v5,v6⟩:=six_no (c:=s[k]) (by rw [hc];decide)
 have v7:((s[k].toNat:Int) == 112) = false:=by rw [hc];rfl
 have v8:((s[k].toNat:Int) == 97) = true:=by rw [hc];rfl
 have IH:=Hd ih
 have hD:=refDigits_ok s (k + 1) (by omega) (by omega)
 have hrl:runN (sfx s (k + 1)) ≤ s.size - (k + 1):=by
  unfold runN
  have:=(List.takeWhile_sublist digB (l:=sfx s (k + 1))).length_le
  rw [sfx_length] at this
  exact this
 have hX:=Hd (show (s.extract (k + 1) (k + 1 + runN (sfx s (k + 1)))).data.toList = (sfx s (k + 1)).take (runN (sfx s (k + 1))) by rw [extract_take])
 have hdr:=Hd (show (sfx s (k + 1)).drop (runN (sfx s (k + 1))) = sfx s (k + 1 + runN (sfx s (k + 1))) by rw [sfx_drop])
 rw [hdr.out] at ht
 generalize hj:k + 1 + runN (sfx s (k + 1)) = j at *
 have hj1:k + 1 ≤ j:=by omega
 have hj2:j ≤ s.size:=by omega
 have hWh:=refWhole_ok (s.extract (k + 1) j)
 rw [hX.out] at hWh
 generalize (sfx s (k + 1)).take (runN (sfx s (k + 1))) = u at *
 rw [Int.natCast_add] at hD
 have HD:=Hd hD
 have ht:=Hd ht
 clear hc ih hD hX hdr hj hrl ht0
 rcases hn:numT u with _ | m
 ·have hfin:=Hd (ht.out.trans (by rw [hn];try rfl))
  rw [hn] at hWh
  have HWh:=Hd hWh
  clear hn hWh
  go_enter Tryz.func122,Tryz.ntmps122
  go_wp2_with (first | (go_at_call 140;refine (HD.out _).mono ?_;rintro e w1 ⟨rfl,hw1⟩;subst w1) | (go_at_call 141;refine (HWh.out _).mono ?_;rintro e w2 ⟨⟨z,rfl⟩,hb⟩;have HB:=Hd hb;clear hb))
  go_ret2
  exact next_no hfin.out HB.out
 ·have htm:=ht.out
  rw [hn] at htm
  simp only [Option.bind_some] at htm
  rw [hn] at hWh
  have HWh:=Hd hWh
  clear hn hWh
  by_cases hlt:j < s.size
  ·by_cases h58:s[j] = 58
   ·have t1:((s[j].toNat:Int) != 58) = false:=by rw [h58];rfl
    rw [sfx_cons s j hlt,h58] at htm
    simp only at htm
    have HC:=Hd fun w'=>IH.out (j + 1) w' (by omega) (by omega)
    clear h58
    rcases hr:tyF n (sfx s (j + 1)) with _ | ⟨t,q⟩
    ·rw [hr] at htm HC
     have hfin:=Hd htm
     clear htm hr
     rw [Int.natCast_add] at HC
     go_enter Tryz.func122,Tryz.ntmps122
     go_wp2_with (first | (go_at_call 140;refine (HD.out _).mono ?_;rintro e w1 ⟨rfl,hw1⟩;subst w1) | (go_at_call 141;refine (HWh.out _).mono ?_;rintro e w2 ⟨rfl,hb⟩;have HB:=Hd hb;clear hb) | (go_at_call 122;refine (HC.out _).mono ?_;rintro e w3 ⟨⟨z,rfl⟩,hb⟩;have HB3:=Ht HB hb;clear hb))
     go_ret2
     exact next_no hfin.out HB3.out
    ·rw [hr] at htm HC
     have hfin:=Hd htm
     clear htm hr
     rw [Int.natCast_add] at HC
     go_enter Tryz.func122,Tryz.ntmps122
     go_wp2_with (first | (go_at_call 140;refine (HD.out _).mono ?_;rintro e w1 ⟨rfl,hw1⟩;subst w1) | (go_at_call 141;refine (HWh.out _).mono ?_;rintro e w2 ⟨rfl,hb⟩;have HB:=Hd hb;clear hb) | (go_at_call 122;refine (HC.out _).mono ?_;rintro e w3 ⟨rfl,hb⟩;have HB3:=Ht HB hb;clear hb))
     go_ret2
     exact next_yes hfin.out rfl HB3.out
   ·have t1:((s[j].toNat:Int) != 58) = true:=by
     rw [bne_iff_ne]
     intro e
     exact h58 (UInt8.toNat_inj.1 (by have h:(58:UInt8).toNat = 58:=rfl;omega))
    have hfin:=Hd (show tyF (n + 1) (sfx s k) = none by
     rw [htm,sfx_cons s j hlt]
     split
     ·rename_i r h
      exact absurd (List.cons.inj h).1 h58
     ·rfl)
    clear h58 htm
    go_enter Tryz.func122,Tryz.ntmps122
    go_wp2_with (first | (go_at_call 140;refine (HD.out _).mono ?_;rintro e w1 ⟨rfl,hw1⟩;subst w1) | (go_at_call 141;refine (HWh.out _).mono ?_;rintro e w2 ⟨rfl,hb⟩;have HB:=Hd hb;clear hb))
    go_ret2
    exact next_no hfin.out HB.out
  ·have hfin:=Hd (show tyF (n + 1) (sfx s k) = none by rw [htm,sfx_nil s j (by omega)])
   have t3:(s.size:Int) ≤ (j:Int):=by omega
   clear htm
   go_enter Tryz.func122,Tryz.ntmps122
   go_wp2_with (first | (go_at_call 140;refine (HD.out _).mono ?_;rintro e w1 ⟨rfl,hw1⟩;subst w1) | (go_at_call 141;refine (HWh.out _).mono ?_;rintro e w2 ⟨rfl,hb⟩;have HB:=Hd hb;clear hb))
   go_ret2
   exact next_no hfin.out HB.out
end Go.Proofs.YtbbaooeioogijaaGreatDoor
