/- The reference's reading of a type: a struct's name. · The reference's reading of a type: arrays. · Where a type ends, by its text: plain. · The reference's reading of a type: functions; all together. · The reference's Form, and a function's type taken apart. · The reference's taking apart of a function's type. -/
import Derived.Test.YtlcfejgjeljjdaaGreatDoorMg9
import Derived.Test.YtlcfejgjeljjdaaGreatDoorMg2
namespace Go.Proofs.YtlcfejgjeljjdaaGreatDoor
open Go.RowKit
theorem sfx_split (s:ByteArray) (k m:Nat):sfx s k = (sfx s k).take m ++ sfx s (k + m):=by rw [← sfx_drop,List.take_append_drop]
set_option maxHeartbeats 4000000 in
set_option maxRecDepth 100000 in
theorem next_str (n k:Nat) (s:ByteArray) (w:World) (hk:k < s.size) (hs:s.size ≤ 65536) (hc:s[k] = 83) :
 Calls Tryz.prog 92 #[.string s,.int .i64 (k:Int)] w (NextP s (tyF (n + 1) (sfx s k)) w):=by
 have ht:=Hd (show tyF (n + 1) (sfx s k) = (cutAt 59 (sfx s (k + 1))).bind fun q=>if nameL q.1 = true then some (.str q.1,q.2) else none by
  rw [sfx_cons s k hk,tyF,hc,if_neg (by decide),if_neg (by decide),if_neg (by decide),if_pos rfl])
 have hs':(s.size:Int) ≤ 65536:=by omega
 obtain ⟨v1,v2,v3,v4,v5,v6⟩:=six_no (c:=s[k]) (by rw [hc];decide)
 have v7:((s[k].toNat:Int) == 112) = false:=by rw [hc];rfl
 have v8:((s[k].toNat:Int) == 97) = false:=by rw [hc];rfl
 have v9:((s[k].toNat:Int) == 83) = true:=by rw [hc];rfl
 clear hc
 go_enter Tryz.func92,Tryz.ntmps92
 go_wp2_with fail
 have hz0:((k:Int) + 1 + ((0:Nat):Int)) = (k:Int) + 1:=by omega
 go_loopg [9] s.size (fun g v wy=>∃ m:Nat,k + 1 + m ≤ s.size ∧ v = .int .i64 ((k:Int) + 1 + (m:Int)) ∧ Hid (s.size = m + g) ∧ Hid (59 ∉ (sfx s (k + 1)).take m) ∧ w = wy)
 case atStart=>exact ⟨0,by omega,by rw [hz0],(Nat.zero_add _).symm,by rw [List.take_zero];exact List.not_mem_nil,rfl⟩
 case round=>
  obtain ⟨m,hm,rfl,hg,hno,rfl⟩:=hrel
  have hi:((k:Int) + 1 + (m:Int)) = ((k + 1 + m:Nat):Int):=by omega
  rw [hi]
  clear hz0
  obtain ⟨j,hj⟩:∃ j,j = k + 1 + m:=⟨_,rfl⟩
  rw [← hj] at hi hm ⊢
  have HJ:=Hd hj
  have HI:=Hd hi
  have hkj:k + 1 ≤ j:=by omega
  clear hj hi
  by_cases hlt:j < s.size
  ·by_cases h59:s[j] = 59
   ·have t1:((s[j].toNat:Int) != 59) = false:=by rw [h59];rfl
    have hL:sfx s (k + 1) = (sfx s (k + 1)).take m ++ 59 :: sfx s (j + 1):=by
     have h1:=sfx_split s (k + 1) m
     rw [← HJ.out,sfx_cons s j hlt,h59] at h1
     exact h1
    have hcut:cutAt 59 (sfx s (k + 1)) = some ((sfx s (k + 1)).take m,sfx s (j + 1)):=by
     conv=>lhs;rw [hL]
     exact cutAt_mk hno.out
    have hX:(s.extract (k + 1) j).data.toList = (sfx s (k + 1)).take m:=by rw [HJ.out,extract_take]
    have hnl:nameL ((sfx s (k + 1)).take m) = isNameB (s.extract (k + 1) j):=by
     rw [← hX,nameL]
    have HN:=Hd (baseName_any (s.extract (k + 1) j) w)
    have ht2:=ht.out
    rw [hcut] at ht2
    simp only [Option.bind_some,hnl] at ht2
    have hz:=Hd (show ((j:Int) + 1) = ((s.size - (sfx s (j + 1)).length:Nat):Int) by rw [sfx_length];omega)
    clear hL hcut hX hnl h59
    rcases hnm:isNameB (s.extract (k + 1) j) with _ | _
    ·rw [hnm] at ht2 HN
     have hfin:=Hd ht2
     clear ht2 hnm
     go_wp2_with (go_at_call 105;refine HN.out.mono ?_;rintro e w1 ⟨rfl,hb⟩;have HB:=Hd hb;clear hb)
     go_ret2
     exact next_no (hfin.out.trans (by simp)) HB.out
    ·rw [hnm] at ht2 HN
     have hfin:=Hd ht2
     clear ht2 hnm
     go_wp2_with (go_at_call 105;refine HN.out.mono ?_;rintro e w1 ⟨rfl,hb⟩;have HB:=Hd hb;clear hb)
     go_ret2
     exact next_yes (hfin.out.trans (if_pos trivial)) hz.out HB.out
   ·have t1:((s[j].toNat:Int) != 59) = true:=by
     rw [bne_iff_ne]
     intro e
     exact h59 (UInt8.toNat_inj.1 (by have h:(59:UInt8).toNat = 59:=rfl;omega))
    have HN:=Hd (show 59 ∉ (sfx s (k + 1)).take (m + 1) by
     rw [List.take_add_one]
     have h1:(sfx s (k + 1))[m]? = some s[j]:=by
      have h2:=sfx_split s (k + 1) m
      rw [← HJ.out,sfx_cons s j hlt] at h2
      rw [h2,List.getElem?_append_right (by rw [List.length_take];omega)]
      rw [List.length_take,sfx_length]
      have:m - min m (s.size - (k + 1)) = 0:=by have:=HJ.out;omega
      rw [this];rfl
     rw [h1]
     simp only [Option.toList_some,List.mem_append,List.mem_singleton,not_or]
     exact ⟨hno.out,fun e=>h59 e.symm⟩)
    clear h59
    go_wp2_with fail
    go_roundg (s.size - (m + 1))
    case measure=>have:=hg.out;have:=HJ.out;omega
    case rel=>exact ⟨m + 1,by have:=HJ.out;omega,by have:=HJ.out;congr 1;omega,by have:=hg.out;have:=HJ.out;show s.size = _;omega,HN,rfl⟩
  ·have hfin:=Hd (show tyF (n + 1) (sfx s k) = none by
    rw [ht.out]
    have h1:(sfx s (k + 1)).take m = sfx s (k + 1):=List.take_of_length_le (by rw [sfx_length];have:=HJ.out;omega)
    rw [cutAt_none.2 (by rw [← h1];exact hno.out)]
    rfl)
   have t3:(s.size:Int) ≤ (j:Int):=by omega
   go_wp2_with fail
   go_ret2
   exact next_no hfin.out (Below.refl _ _)
end Go.Proofs.YtlcfejgjeljjdaaGreatDoor
namespace Go.Proofs.YtlcfejgjeljjdaaGreatDoor
open Go.RowKit
theorem run_cut {L u r:List UInt8} {m:Nat} (hc:cutAt 58 L = some (u,r)) (hn:numT u = some m):runN L = u.length ∧ L.take (runN L) = u ∧ L.drop (runN L) = 58 :: r:=by
 obtain ⟨hL,_⟩:=cutAt_some hc
 obtain ⟨hu,_⟩:=numT_some hn
 have hall:u.all digB = true:=by rw [hu];exact (dec_digits m).1
 have h1:runN L = u.length:=by
  rw [hL]
  exact runN_app hall (fun c hc=>by obtain rfl:=Option.some.inj hc;rfl)
 exact ⟨h1,by rw [h1,hL,List.take_left],by rw [h1,hL,List.drop_left]⟩
theorem arr_read (n:Nat) (L:List UInt8):((cutAt 58 L).bind fun q=>(numT q.1).bind fun m=>(tyF n q.2).map fun x=>(Ty.arr m x.1,x.2)) =
 (numT (L.take (runN L))).bind fun m=>match L.drop (runN L) with
   | 58 :: r=>(tyF n r).map fun x=>(Ty.arr m x.1,x.2)
   | _=>none:=by
 rcases hc:cutAt 58 L with _ | ⟨u,r⟩
 ·have hno:=cutAt_none.1 hc
  simp only [Option.bind_none]
  cases numT (L.take (runN L)) with
  | none=>rfl
  | some m=>
    simp only [Option.bind_some]
    split
    ·rename_i r h
     exact absurd (by rw [← List.take_append_drop (runN L) L,h];simp) hno
    ·rfl
 ·simp only [Option.bind_some]
  rcases hn:numT u with _ | m
  ·simp only [Option.bind_none]
   rcases hm:numT (L.take (runN L)) with _ | m
   ·rfl
   ·simp only [Option.bind_some]
    split
    ·rename_i r' h
     obtain ⟨hd,_⟩:=numT_some hm
     have hall:(L.take (runN L)).all digB = true:=by rw [hd];exact (dec_digits m).1
     have hno:(58:UInt8) ∉ L.take (runN L):=fun h58=>by
      have:=List.all_eq_true.1 hall _ h58
      exact absurd this (by decide)
     have e:=cutAt_mk (r:=r') hno
     rw [← h,List.take_append_drop,hc] at e
     obtain ⟨rfl,_⟩:=Prod.mk.inj (Option.some.inj e)
     rw [hn] at hm;cases hm
    ·rfl
  ·obtain ⟨_,h2,h3⟩:=run_cut hc hn
   rw [h2,h3,hn]
   simp only [Option.bind_some]
set_option maxHeartbeats 4000000 in
set_option maxRecDepth 100000 in
theorem next_arr (n k:Nat) (s:ByteArray) (w:World) (hk:k < s.size) (hs:s.size ≤ 65536) (hc:s[k] = 97)
 (ih:∀ j w',k < j → j ≤ s.size → Calls Tryz.prog 92 #[.string s,.int .i64 (j:Int)] w' (NextP s (tyF n (sfx s j)) w')) :
 Calls Tryz.prog 92 #[.string s,.int .i64 (k:Int)] w (NextP s (tyF (n + 1) (sfx s k)) w):=by
 have ht0:tyF (n + 1) (sfx s k) = (cutAt 58 (sfx s (k + 1))).bind fun q=>(numT q.1).bind fun m=>(tyF n q.2).map fun x=>(Ty.arr m x.1,x.2):=by
  rw [sfx_cons s k hk,tyF,hc,if_neg (by decide),if_neg (by decide),if_pos rfl]
 have ht:=ht0.trans (arr_read n (sfx s (k + 1)))
 have hs':(s.size:Int) ≤ 65536:=by omega
 obtain ⟨v1,v2,v3,v4,v5,v6⟩:=six_no (c:=s[k]) (by rw [hc];decide)
 have v7:((s[k].toNat:Int) == 112) = false:=by rw [hc];rfl
 have v8:((s[k].toNat:Int) == 97) = true:=by rw [hc];rfl
 have IH:=Hd ih
 have hD:=refDigits_ok s (k + 1) (by omega) (by omega)
 have hrl:runN (sfx s (k + 1)) ≤ s.size - (k + 1):=by
  unfold runN
  have:=(List.takeWhile_sublist digB (l:=sfx s (k + 1))).length_le
  rw [sfx_length] at this
  exact this
 have hX:=Hd (show (s.extract (k + 1) (k + 1 + runN (sfx s (k + 1)))).data.toList = (sfx s (k + 1)).take (runN (sfx s (k + 1))) by rw [extract_take])
 have hdr:=Hd (show (sfx s (k + 1)).drop (runN (sfx s (k + 1))) = sfx s (k + 1 + runN (sfx s (k + 1))) by rw [sfx_drop])
 rw [hdr.out] at ht
 generalize hj:k + 1 + runN (sfx s (k + 1)) = j at *
 have hj1:k + 1 ≤ j:=by omega
 have hj2:j ≤ s.size:=by omega
 have hWh:=refWhole_ok (s.extract (k + 1) j)
 rw [hX.out] at hWh
 generalize (sfx s (k + 1)).take (runN (sfx s (k + 1))) = u at *
 rw [Int.natCast_add] at hD
 have HD:=Hd hD
 have ht:=Hd ht
 clear hc ih hD hX hdr hj hrl ht0
 rcases hn:numT u with _ | m
 ·have hfin:=Hd (ht.out.trans (by rw [hn];try rfl))
  rw [hn] at hWh
  have HWh:=Hd hWh
  clear hn hWh
  go_enter Tryz.func92,Tryz.ntmps92
  go_wp2_with (first | (go_at_call 119;refine (HD.out _).mono ?_;rintro e w1 ⟨rfl,hw1⟩;subst w1) | (go_at_call 120;refine (HWh.out _).mono ?_;rintro e w2 ⟨⟨z,rfl⟩,hb⟩;have HB:=Hd hb;clear hb))
  go_ret2
  exact next_no hfin.out HB.out
 ·have htm:=ht.out
  rw [hn] at htm
  simp only [Option.bind_some] at htm
  rw [hn] at hWh
  have HWh:=Hd hWh
  clear hn hWh
  by_cases hlt:j < s.size
  ·by_cases h58:s[j] = 58
   ·have t1:((s[j].toNat:Int) != 58) = false:=by rw [h58];rfl
    rw [sfx_cons s j hlt,h58] at htm
    simp only at htm
    have HC:=Hd fun w'=>IH.out (j + 1) w' (by omega) (by omega)
    clear h58
    rcases hr:tyF n (sfx s (j + 1)) with _ | ⟨t,q⟩
    ·rw [hr] at htm HC
     have hfin:=Hd htm
     clear htm hr
     rw [Int.natCast_add] at HC
     go_enter Tryz.func92,Tryz.ntmps92
     go_wp2_with (first | (go_at_call 119;refine (HD.out _).mono ?_;rintro e w1 ⟨rfl,hw1⟩;subst w1) | (go_at_call 120;refine (HWh.out _).mono ?_;rintro e w2 ⟨rfl,hb⟩;have HB:=Hd hb;clear hb) | (go_at_call 92;refine (HC.out _).mono ?_;rintro e w3 ⟨⟨z,rfl⟩,hb⟩;have HB3:=Ht HB hb;clear hb))
     go_ret2
     exact next_no hfin.out HB3.out
    ·rw [hr] at htm HC
     have hfin:=Hd htm
     clear htm hr
     rw [Int.natCast_add] at HC
     go_enter Tryz.func92,Tryz.ntmps92
     go_wp2_with (first | (go_at_call 119;refine (HD.out _).mono ?_;rintro e w1 ⟨rfl,hw1⟩;subst w1) | (go_at_call 120;refine (HWh.out _).mono ?_;rintro e w2 ⟨rfl,hb⟩;have HB:=Hd hb;clear hb) | (go_at_call 92;refine (HC.out _).mono ?_;rintro e w3 ⟨rfl,hb⟩;have HB3:=Ht HB hb;clear hb))
     go_ret2
     exact next_yes hfin.out rfl HB3.out
   ·have t1:((s[j].toNat:Int) != 58) = true:=by
     rw [bne_iff_ne]
     intro e
     exact h58 (UInt8.toNat_inj.1 (by have h:(58:UInt8).toNat = 58:=rfl;omega))
    have hfin:=Hd (show tyF (n + 1) (sfx s k) = none by
     rw [htm,sfx_cons s j hlt]
     split
     ·rename_i r h
      exact absurd (List.cons.inj h).1 h58
     ·rfl)
    clear h58 htm
    go_enter Tryz.func92,Tryz.ntmps92
    go_wp2_with (first | (go_at_call 119;refine (HD.out _).mono ?_;rintro e w1 ⟨rfl,hw1⟩;subst w1) | (go_at_call 120;refine (HWh.out _).mono ?_;rintro e w2 ⟨rfl,hb⟩;have HB:=Hd hb;clear hb))
    go_ret2
    exact next_no hfin.out HB.out
  ·have hfin:=Hd (show tyF (n + 1) (sfx s k) = none by rw [htm,sfx_nil s j (by omega)])
   have t3:(s.size:Int) ≤ (j:Int):=by omega
   clear htm
   go_enter Tryz.func92,Tryz.ntmps92
   go_wp2_with (first | (go_at_call 119;refine (HD.out _).mono ?_;rintro e w1 ⟨rfl,hw1⟩;subst w1) | (go_at_call 120;refine (HWh.out _).mono ?_;rintro e w2 ⟨rfl,hb⟩;have HB:=Hd hb;clear hb))
   go_ret2
   exact next_no hfin.out HB.out
end Go.Proofs.YtlcfejgjeljjdaaGreatDoor
namespace Go.Proofs.YtlcfejgjeljjdaaGreatDoor
open Go.RowKit
theorem tyF_more {n m:Nat} {L:List UInt8} {x:Ty × List UInt8} (hm:L.length < m) (h:tyF n L = some x):tyF m L = some x:=by
 obtain ⟨t,r⟩:=x
 obtain ⟨rfl,h1⟩:=(tyF_code n).1 _ _ _ h
 exact code_tyF t h1 m r (by rw [List.length_append] at hm;omega)
theorem tyF_fuel {n m:Nat} {L:List UInt8} (hn:L.length < n) (hm:L.length < m):tyF n L = tyF m L:=by
 rcases h:tyF m L with _ | x
 ·rcases h2:tyF n L with _ | y
  ·rfl
  ·rw [tyF_more hm h2] at h;cases h
 ·exact tyF_more hn h
theorem moreF_more {n m:Nat} {L:List UInt8} {x:List Ty × List UInt8} (hm:L.length < m) (h:moreF n L = some x):moreF m L = some x:=by
 obtain ⟨ps,r⟩:=x
 obtain ⟨rfl,h1,h2⟩:=(tyF_code n).2.2 _ _ _ h
 obtain ⟨t,l,rfl⟩:=List.exists_cons_of_ne_nil h2
 exact code_moreF t l h1.1 h1.2 m r (by simp at hm;omega)
theorem moreF_fuel {n m:Nat} {L:List UInt8} (hn:L.length < n) (hm:L.length < m):moreF n L = moreF m L:=by
 rcases h:moreF m L with _ | x
 ·rcases h2:moreF n L with _ | y
  ·rfl
  ·rw [moreF_more hm h2] at h;cases h
 ·exact moreF_more hn h
def nE (l:List UInt8):Option (List UInt8):=(tyF (l.length + 1) l).map (·.2)
def mE (l:List UInt8):Option (List UInt8):=(moreF (l.length + 1) l).map (·.2)
theorem nE_fuel {n:Nat} {L:List UInt8} (h:L.length < n):(tyF n L).map (·.2) = nE L:=by rw [nE,tyF_fuel h (Nat.lt_succ_self _)]
theorem mE_fuel {n:Nat} {L:List UInt8} (h:L.length < n):(moreF n L).map (·.2) = mE L:=by rw [mE,moreF_fuel h (Nat.lt_succ_self _)]
theorem nE_some {L q:List UInt8} (h:nE L = some q):∃ t,Right t ∧ L = code t ++ q ∧ q.length < L.length:=by
 obtain ⟨⟨t,q'⟩,h1,hq'⟩:=Option.map_eq_some_iff.1 h
 simp only at hq'
 subst hq'
 obtain ⟨h2,h3⟩:=(tyF_code _).1 _ _ _ h1
 have:=code_pos h3
 have hl:=congrArg List.length h2
 rw [List.length_append] at hl
 exact ⟨t,h3,h2,by omega⟩
def mG:List UInt8 → Option (List UInt8)
 | 41 :: r=>some r
 | 44 :: r=>mE r
 | _=>none
theorem mE_none {L:List UInt8} (h:nE L = none):mE L = none:=by
 rw [← mE_fuel (n:=L.length + 2) (by omega),moreF]
 rw [nE,Option.map_eq_none_iff] at h
 rw [h];rfl
theorem mE_some {L q:List UInt8} (h:nE L = some q):mE L = mG q:=by
 obtain ⟨_,_,_,hq⟩:=nE_some h
 obtain ⟨⟨t,q'⟩,h1,hq'⟩:=Option.map_eq_some_iff.1 h
 simp only at hq'
 subst hq'
 rw [← mE_fuel (n:=L.length + 2) (by omega),moreF,h1]
 simp only [Option.bind_some]
 match q',hq with
 | [],_=>rfl
 | c :: r,hq=>
   simp only [List.length_cons] at hq
   by_cases h41:c = 41
   ·subst h41;rfl
   ·by_cases h44:c = 44
    ·subst h44
     show Option.map (·.2) ((moreF (L.length + 1) r).map fun x=>(t :: x.1,x.2)) = mE r
     rw [← mE_fuel (n:=L.length + 1) (by omega)]
     cases moreF (L.length + 1) r <;> rfl
    ·rw [show mG (c :: r) = none by
      unfold mG
      split
      ·rename_i h;exact absurd (List.cons.inj h).1 h41
      ·rename_i h;exact absurd (List.cons.inj h).1 h44
      ·rfl]
     split
     ·rename_i h;exact absurd (List.cons.inj h).1 h41
     ·rename_i h;exact absurd (List.cons.inj h).1 h44
     ·rfl
theorem mG_no {q:List UInt8} (h1:¬ ∃ l,q = 41 :: l) (h2:¬ ∃ l,q = 44 :: l):mG q = none:=by
 unfold mG
 split
 ·exact absurd ⟨_,rfl⟩ h1
 ·exact absurd ⟨_,rfl⟩ h2
 ·rfl
def pE:List UInt8 → Option (List UInt8)
 | []=>none
 | c :: r=>if c = 41 then some r else mE (c :: r)
def sE (l:List UInt8):Option (List UInt8):=(behind 40 l).bind fun r=>(pE r).bind nE
theorem pE_len {L q:List UInt8} (h:pE L = some q):q.length < L.length:=by
 match L,h with
 | [],h=>cases h
 | c :: r,h=>
   rw [pE] at h
   split at h
   ·obtain rfl:=Option.some.inj h;simp
   ·obtain ⟨⟨ps,q'⟩,h1,rfl⟩:=Option.map_eq_some_iff.1 h
    obtain ⟨h2,_⟩:=(tyF_code _).2.2 _ _ _ h1
    have hl:=congrArg List.length h2
    simp only [List.length_append,List.length_cons] at hl ⊢
    omega
theorem sE_is {n:Nat} {l:List UInt8} (h:l.length < n):(tyF (n + 1) (102 :: l)).map (·.2) = sE l:=by
 rw [tyF,if_neg (by decide),if_neg (by decide),if_neg (by decide),if_neg (by decide),if_pos rfl,sE]
 rcases hb:behind 40 l with _ | r
 ·rfl
 ·simp only [Option.bind_some]
  obtain rfl:=behind_some hb
  simp only [List.length_cons] at h
  have hp:(parsF n r).map (·.2) = pE r:=by
   obtain ⟨k,rfl⟩:∃ k,n = k + 1:=⟨n - 1,by omega⟩
   match r,h with
   | [],_=>rw [parsF];rfl
   | c :: r,h=>
     rw [parsF,pE]
     split
     ·rfl
     ·rw [mE_fuel (by omega)]
  rw [← hp]
  rcases hq:parsF n r with _ | ⟨ps,q⟩
  ·rfl
  ·simp only [Option.bind_some,Option.map_some]
   have hl:q.length < r.length:=pE_len (hp.symm.trans (by rw [hq];rfl))
   rw [← nE_fuel (n:=n) (by omega)]
   cases tyF n q <;> rfl
end Go.Proofs.YtlcfejgjeljjdaaGreatDoor
namespace Go.Proofs.YtlcfejgjeljjdaaGreatDoor
open Go.RowKit
def NextQ (s:ByteArray) (r:Option (List UInt8)) (w:World) (e:Ending) (w':World):Prop:=
 (match r with
   | some q=>e = .returned (.tuple #[.int .i64 ((s.size - q.length:Nat):Int),.bool true])
   | none=>∃ z:Int,e = .returned (.tuple #[.int .i64 z,.bool false])) ∧ Below w.heap.size w w'
theorem nextQ_of {s:ByteArray} {r:Option (Ty × List UInt8)} {w w':World} {e:Ending} (h:NextP s r w e w'):NextQ s (r.map (·.2)) w e w':=by cases r <;> exact h
theorem nextQ_no {s:ByteArray} {r:Option (List UInt8)} {w w':World} {z:Int} (hr:r = none) (hb:Below w.heap.size w w'):NextQ s r w (.returned (.tuple #[.int .i64 z,.bool false])) w':=by subst hr;exact ⟨⟨z,rfl⟩,hb⟩
theorem nextQ_yes {s:ByteArray} {r:Option (List UInt8)} {q:List UInt8} {w w':World} {z:Int} (hr:r = some q) (hz:z = ((s.size - q.length:Nat):Int)) (hb:Below w.heap.size w w'):NextQ s r w (.returned (.tuple #[.int .i64 z,.bool true])) w':=by
 subst hr;subst hz;exact ⟨rfl,hb⟩
theorem byte_ne {c d:UInt8} (h:c ≠ d) {m:Int} (hm:(d.toNat:Int) = m):((c.toNat:Int) == m) = false ∧ ((c.toNat:Int) != m) = true:=by
 have h1:=let_no h hm
 exact ⟨h1,by rw [bne,h1];rfl⟩
theorem byte_eq {c d:UInt8} (h:c = d) {m:Int} (hm:(d.toNat:Int) = m):((c.toNat:Int) == m) = true ∧ ((c.toNat:Int) != m) = false:=by
 subst h
 have h1:((c.toNat:Int) == m) = true:=by rw [beq_iff_eq];exact hm
 exact ⟨h1,by rw [bne,h1];rfl⟩
set_option maxHeartbeats 4000000 in
set_option maxRecDepth 100000 in
theorem signed_ok (k:Nat) (s:ByteArray) (w:World) (hk:k < s.size) (hs:s.size ≤ 65536)
 (ih:∀ j w',k < j → j ≤ s.size → Calls Tryz.prog 92 #[.string s,.int .i64 (j:Int)] w' (NextQ s (nE (sfx s j)) w')) :
 Calls Tryz.prog 121 #[.string s,.int .i64 (k:Int)] w (NextQ s (sE (sfx s (k + 1))) w):=by
 have hs':(s.size:Int) ≤ 65536:=by omega
 have IH:=Hd ih
 clear ih
 by_cases h1:k + 1 < s.size
 ·by_cases h40:s[k + 1] = 40
  ·have hR:sE (sfx s (k + 1)) = (pE (sfx s (k + 2))).bind nE:=by
    rw [sE,sfx_cons s (k + 1) h1,h40];rfl
   obtain ⟨_,t2⟩:=byte_eq h40 (m:=40) rfl
   have t0:¬ ((s.size:Int) ≤ (k:Int) + 1):=by omega
   clear h40
   by_cases h41:∃ h:k + 2 < s.size,s[k + 2] = 41
   ·obtain ⟨h2,h41⟩:=h41
    have hfin:=Hd (show sE (sfx s (k + 1)) = nE (sfx s (k + 3)) by rw [hR,sfx_cons s (k + 2) h2,h41];rfl)
    obtain ⟨t3,_⟩:=byte_eq h41 (m:=41) rfl
    have HC:=Hd (IH.out (k + 3) w (by omega) (by omega))
    have hi:(((k + 3:Nat):Int)) = (k:Int) + 2 + 1:=by omega
    rw [hi] at HC
    have t4:(k:Int) + 2 < s.size:=by omega
    clear h41 hR hi
    rcases hn:nE (sfx s (k + 3)) with _ | q
    all_goals
     have hfin:=Hd (hfin.out.trans hn)
     rw [hn] at HC
     clear hn
     go_enter Tryz.func121,Tryz.ntmps121
    ·go_wp2_with (go_at_call 92;(with_reducible refine HC.out.mono ?_);rintro e w1 ⟨⟨z,rfl⟩,hb⟩;have HB:=Hd hb;clear hb)
     go_ret2
     exact nextQ_no hfin.out HB.out
    ·go_wp2_with (go_at_call 92;(with_reducible refine HC.out.mono ?_);rintro e w1 ⟨rfl,hb⟩;have HB:=Hd hb;clear hb)
     go_ret2
     exact nextQ_yes hfin.out rfl HB.out
   ·have hM:=Hd (show sE (sfx s (k + 1)) = (mE (sfx s (k + 2))).bind nE by
     rw [hR]
     congr 1
     rcases Nat.lt_or_ge (k + 2) s.size with h2 | h2
     ·rw [sfx_cons s (k + 2) h2,pE,if_neg (fun e=>h41 ⟨h2,e⟩)]
     ·rw [sfx_nil s (k + 2) h2];rfl)
    have hT:(s.size:Int) ≤ (k:Int) + 2 ∨ ∃ h:k + 2 < s.size,(k:Int) + 2 < s.size ∧ ((s[k + 2].toNat:Int) == 41) = false:=by
     rcases Nat.lt_or_ge (k + 2) s.size with h2 | h2
     ·exact .inr ⟨h2,by omega,(byte_ne (fun e=>h41 ⟨h2,e⟩) rfl).1⟩
     ·exact .inl (by omega)
    clear h41 hR
    generalize sE (sfx s (k + 1)) = R at *
    rcases hT with t3 | ⟨h2,t4,t3⟩
    all_goals
     go_enter Tryz.func121,Tryz.ntmps121
     go_wp2_with fail
     go_loopg [6] (s.size - (k + 2)) (fun g v wy=>∃ j:Nat,k + 2 ≤ j ∧ j ≤ s.size ∧ j + g = s.size ∧ v = .int .i64 (j:Int) ∧ Hid (R = (mE (sfx s j)).bind nE) ∧ Hid (Below w.heap.size w wy))
     case atStart=>exact ⟨k + 2,by omega,by omega,by omega,by rw [Int.natCast_add];rfl,hM.out,Below.refl _ _⟩
     case round=>
      obtain ⟨j,hj1,hj2,hjg,rfl,hr,HBw⟩:=hrel
      have hN:=IH.out j wr (by omega) hj2
      rcases hn:nE (sfx s j) with _ | q
      ·have hfin:=Hd (show R = none by rw [hr.out,mE_none hn];rfl)
       rw [hn] at hN
       have HN:=Hd hN
       clear hn hN
       go_wp2_with (go_at_call 92;(with_reducible refine HN.out.mono ?_);rintro e w1 ⟨⟨z,rfl⟩,hb⟩;have HB:=Ht HBw hb;clear hb)
       go_ret2
       exact nextQ_no hfin.out HB.out
      ·rw [hn] at hN
       have hq1:=Hd (show R = (mG q).bind nE by rw [hr.out,mE_some hn])
       obtain ⟨t,_,hcode,hlt⟩:=nE_some hn
       obtain ⟨hsq,hpos,hle,hql⟩:=rest_sfx hcode hj2
       obtain ⟨e,ee⟩:∃ e,e = s.size - q.length:=⟨_,rfl⟩
       rw [← ee] at hsq
       rw [sfx_length] at hlt
       have hN':Calls Tryz.prog 92 #[.string s,.int .i64 (j:Int)] wr (fun x w'=>x = .returned (.tuple #[.int .i64 (e:Int),.bool true]) ∧ Below wr.heap.size wr w'):=by rw [ee];exact hN
       have he1:j < e:=by omega
       have he2:e ≤ s.size:=by omega
       have HN:=Hd hN'
       clear hn hN hN' hcode hpos hle hql hlt ee
       by_cases hes:e < s.size
       ·have hq2:q = s[e] :: sfx s (e + 1):=by rw [← hsq,sfx_cons s e hes]
        by_cases hc41:s[e] = 41
        ·obtain ⟨t5,t6⟩:=byte_eq hc41 (m:=41) rfl
         have t7:((s[e].toNat:Int) != 44) = true:=(byte_ne (d:=44) (by rw [hc41];decide) rfl).2
         have hR3:R = nE (sfx s (e + 1)):=by rw [hq1.out,hq2,hc41];rfl
         have HC:=Hd (fun w'=>IH.out (e + 1) w' (by omega) (by omega))
         have hi:(((e + 1:Nat):Int)) = (e:Int) + 1:=by omega
         rw [hi] at HC
         clear hc41 hq2 hsq hi
         rcases hn:nE (sfx s (e + 1)) with _ | q2
         ·have hfin:=Hd (hR3.trans hn)
          rw [hn] at HC
          clear hn hR3
          go_wp2_with (first | (go_at_call 92;(with_reducible refine HN.out.mono ?_);rintro e w1 ⟨rfl,hb⟩;have HB:=Ht HBw hb;clear hb) | (go_at_call 92;(with_reducible refine (HC.out _).mono ?_);rintro e w2 ⟨⟨z,rfl⟩,hb⟩;have HB2:=Ht HB hb;clear hb))
          all_goals (go_ret2;exact nextQ_no hfin.out HB2.out)
         ·have hfin:=Hd (hR3.trans hn)
          rw [hn] at HC
          clear hn hR3
          go_wp2_with (first | (go_at_call 92;(with_reducible refine HN.out.mono ?_);rintro e w1 ⟨rfl,hb⟩;have HB:=Ht HBw hb;clear hb) | (go_at_call 92;(with_reducible refine (HC.out _).mono ?_);rintro e w2 ⟨rfl,hb⟩;have HB2:=Ht HB hb;clear hb))
          all_goals (go_ret2;exact nextQ_yes hfin.out rfl HB2.out)
        ·by_cases hc44:s[e] = 44
         ·obtain ⟨_,t6⟩:=byte_eq hc44 (m:=44) rfl
          have t7:((s[e].toNat:Int) == 41) = false:=(byte_ne hc41 rfl).1
          have hR3:=Hd (show R = (mE (sfx s (e + 1))).bind nE by rw [hq1.out,hq2,hc44];rfl)
          clear hc41 hc44 hq2 hsq
          go_wp2_with (go_at_call 92;(with_reducible refine HN.out.mono ?_);rintro e w1 ⟨rfl,hb⟩;have HB:=Ht HBw hb;clear hb)
          all_goals
           go_roundg (s.size - (e + 1))
           case measure=>omega
           case rel=>exact ⟨e + 1,by omega,by omega,by omega,by rw [Int.natCast_add];rfl,hR3,HB⟩
         ·have t6:=(byte_ne hc41 (m:=41) rfl).2
          have t7:=(byte_ne hc44 (m:=44) rfl).2
          have hfin:=Hd (show R = none by
           rw [hq1.out,mG_no (fun ⟨l,h⟩=>by rw [hq2] at h;exact hc41 (List.cons.inj h).1) (fun ⟨l,h⟩=>by rw [hq2] at h;exact hc44 (List.cons.inj h).1)];rfl)
          clear hc41 hc44 hq2 hsq
          go_wp2_with (go_at_call 92;(with_reducible refine HN.out.mono ?_);rintro e w1 ⟨rfl,hb⟩;have HB:=Ht HBw hb;clear hb)
          all_goals (go_ret2;exact nextQ_no hfin.out HB.out)
       ·have hq2:q = []:=by rw [← hsq,sfx_nil s e (by omega)]
        have hfin:=Hd (show R = none by rw [hq1.out,hq2];rfl)
        have t6:(s.size:Int) ≤ (e:Int):=by omega
        clear hq2 hsq
        go_wp2_with (go_at_call 92;(with_reducible refine HN.out.mono ?_);rintro e w1 ⟨rfl,hb⟩;have HB:=Ht HBw hb;clear hb)
        all_goals (go_ret2;exact nextQ_no hfin.out HB.out)
  ·have hfin:=Hd (show sE (sfx s (k + 1)) = none by
    rw [sE,sfx_cons s (k + 1) h1,behind,if_neg h40];rfl)
   obtain ⟨_,t2⟩:=byte_ne h40 (m:=40) rfl
   clear h40
   go_enter Tryz.func121,Tryz.ntmps121
   go_wp2_with fail
   go_ret2
   exact nextQ_no hfin.out (Below.refl _ _)
 ·have hfin:=Hd (show sE (sfx s (k + 1)) = none by rw [sfx_nil s (k + 1) (by omega)];rfl)
  have t1:(s.size:Int) ≤ (k:Int) + 1:=by omega
  go_enter Tryz.func121,Tryz.ntmps121
  go_wp2_with fail
  go_ret2
  exact nextQ_no hfin.out (Below.refl _ _)
set_option maxHeartbeats 4000000 in
theorem next_fn (n k:Nat) (s:ByteArray) (w:World) (hk:k < s.size) (hs:s.size ≤ 65536) (hc:s[k] = 102) (hn:(sfx s (k + 1)).length < n)
 (ih:∀ j w',k < j → j ≤ s.size → Calls Tryz.prog 92 #[.string s,.int .i64 (j:Int)] w' (NextQ s (nE (sfx s j)) w')) :
 Calls Tryz.prog 92 #[.string s,.int .i64 (k:Int)] w (NextP s (tyF (n + 1) (sfx s k)) w):=by
 have hR:(tyF (n + 1) (sfx s k)).map (·.2) = sE (sfx s (k + 1)):=by rw [sfx_cons s k hk,hc];exact sE_is hn
 have hS:=signed_ok k s w hk hs ih
 rw [← hR] at hS
 have hs':(s.size:Int) ≤ 65536:=by omega
 obtain ⟨v1,v2,v3,v4,v5,v6⟩:=six_no (c:=s[k]) (by rw [hc];decide)
 have v7:((s[k].toNat:Int) == 112) = false:=by rw [hc];rfl
 have v8:((s[k].toNat:Int) == 97) = false:=by rw [hc];rfl
 have v9:((s[k].toNat:Int) == 83) = false:=by rw [hc];rfl
 have v10:((s[k].toNat:Int) == 102) = true:=by rw [hc];rfl
 clear hc ih hn hR
 rcases hr:tyF (n + 1) (sfx s k) with _ | ⟨t,q⟩
 ·rw [hr] at hS
  have HS:=Hd hS
  clear hr hS
  go_enter Tryz.func92,Tryz.ntmps92
  go_wp2_with (go_at_call 121;(with_reducible refine HS.out.mono ?_);rintro e w1 ⟨⟨z,rfl⟩,hb⟩;have HB:=Hd hb;clear hb)
  go_ret2
  exact next_no rfl HB.out
 ·rw [hr] at hS
  have HS:=Hd hS
  clear hr hS
  go_enter Tryz.func92,Tryz.ntmps92
  go_wp2_with (go_at_call 121;(with_reducible refine HS.out.mono ?_);rintro e w1 ⟨rfl,hb⟩;have HB:=Hd hb;clear hb)
  go_ret2
  exact next_yes rfl rfl HB.out
theorem refNext_ok (s:ByteArray) (hs:s.size ≤ 65536):∀ (m k n:Nat) (w:World),s.size - k < m → (sfx s k).length < n → Calls Tryz.prog 92 #[.string s,.int .i64 (k:Int)] w (NextP s (tyF n (sfx s k)) w)
 | 0,_,_,_,h,_=>absurd h (Nat.not_lt_zero _)
 | m + 1,k,n,w,hm,hn=>by
   by_cases hk:k < s.size
   ·have hl:(sfx s k).length = s.size - k:=sfx_length s k
    have hl1:∀ j,(sfx s j).length = s.size - j:=fun j=>sfx_length s j
    obtain ⟨n,rfl⟩:∃ n',n = n' + 1:=⟨n - 1,by omega⟩
    have ih:∀ j w',k < j → j ≤ s.size → Calls Tryz.prog 92 #[.string s,.int .i64 (j:Int)] w' (NextP s (tyF n (sfx s j)) w'):=fun j w' h1 h2=>refNext_ok s hs m j n w' (by omega) (by rw [hl1];omega)
    by_cases h0:isBase s[k] = true
    ·exact next_base n k s w hk hs h0
    ·by_cases h1:s[k] = 112
     ·exact next_ptr n k s w hk hs h1 (ih (k + 1) w (by omega) (by omega))
     ·by_cases h2:s[k] = 97
      ·exact next_arr n k s w hk hs h2 ih
      ·by_cases h3:s[k] = 83
       ·exact next_str n k s w hk hs h3
       ·by_cases h4:s[k] = 102
        ·refine next_fn n k s w hk hs h4 (by rw [hl1];omega) fun j w' hj1 hj2=>?_
         have:=(ih j w' hj1 hj2).mono fun e w' h'=>nextQ_of h'
         rw [nE_fuel (by rw [hl1];omega)] at this
         exact this
        ·exact next_other n k s w hk hs (by simpa using h0) h1 h2 h3 h4
   ·exact next_end n k s w (by omega)
theorem nextE_ok (s:ByteArray) (k:Nat) (w:World) (hs:s.size ≤ 65536) (_hk:k ≤ s.size):Calls Tryz.prog 92 #[.string s,.int .i64 (k:Int)] w (NextQ s (nE (sfx s k)) w):=by
 have h:=refNext_ok s hs (s.size - k + 1) k ((sfx s k).length + 1) w (by omega) (by omega)
 exact h.mono fun e w' h'=>nextQ_of h'
end Go.Proofs.YtlcfejgjeljjdaaGreatDoor
namespace Go.Proofs.YtlcfejgjeljjdaaGreatDoor
open Go.RowKit
theorem tyS_isSome (s:ByteArray):(tyS s).isSome = (decide (s.size ≤ 65536) && decide (nE s.data.toList = some [])):=by
 unfold tyS
 by_cases hs:s.size ≤ 65536
 ·rw [if_pos hs,decide_eq_true hs,Bool.true_and]
  unfold tyE
  rw [← nE_fuel (n:=2 * s.data.toList.length + 1) (by omega)]
  rcases tyF (2 * s.data.toList.length + 1) s.data.toList with _ | ⟨t,q⟩
  ·rfl
  ·simp only [Option.bind_some,Option.map_some,Option.some.injEq]
   by_cases hq:q = []
   ·rw [if_pos hq,decide_eq_true hq];rfl
   ·rw [if_neg hq,decide_eq_false hq];rfl
 ·rw [if_neg hs,decide_eq_false hs];rfl
set_option maxHeartbeats 2000000 in
theorem refForm_ok (s:ByteArray) (w:World):Calls Tryz.prog 67 #[.string s] w fun e w'=>e = .returned (.bool (tyS s).isSome) ∧ Below w.heap.size w w':=by
 have hT:=Hd (tyS_isSome s)
 by_cases hs:s.size ≤ 65536
 ·have hs':(s.size:Int) ≤ 65536:=by omega
  have hN:=nextE_ok s 0 w hs (Nat.zero_le _)
  rw [sfx_zero,Int.ofNat_zero] at hN
  rcases hq:nE s.data.toList with _ | q
  ·rw [hq] at hN
   have HN:=Hd hN
   have hfin:=Hd (show (tyS s).isSome = false by rw [hT.out,hq];simp)
   clear hq hN
   go_enter Tryz.func67,Tryz.ntmps67
   go_wp2_with (go_at_call 92;(with_reducible refine HN.out.mono ?_);rintro e w1 ⟨⟨z,rfl⟩,hb⟩;have HB:=Hd hb;clear hb)
   go_ret
   exact ⟨by rw [hfin.out];rfl,HB.out⟩
  ·rw [hq] at hN
   have hN:Calls Tryz.prog 92 #[.string s,.int .i64 0] w (fun x w'=>x = .returned (.tuple #[.int .i64 ((s.size - q.length:Nat):Int),.bool true]) ∧ Below w.heap.size w w'):=hN
   have HN:=Hd hN
   obtain ⟨_,_,_,hlt⟩:=nE_some hq
   have hl:s.data.toList.length = s.size:=by rw [Array.length_toList];rfl
   rw [hl] at hlt
   by_cases hq0:q = []
   ·have hfin:=Hd (show (tyS s).isSome = true by rw [hT.out,hq,hq0];simp [hs])
    have HZ:=Hd (show s.size - q.length = s.size by rw [hq0];rfl)
    rw [HZ.out] at HN
    clear hq hN hl hlt hq0
    go_enter Tryz.func67,Tryz.ntmps67
    go_wp2_with (go_at_call 92;(with_reducible refine HN.out.mono ?_);rintro e w1 ⟨rfl,hb⟩;have HB:=Hd hb;clear hb)
    go_ret
    exact ⟨by rw [hfin.out];simp,HB.out⟩
   ·have hfin:=Hd (show (tyS s).isSome = false by rw [hT.out,hq];simp [hq0])
    have hqp:=List.length_pos_iff.2 hq0
    obtain ⟨z,hz⟩:∃ z,z = s.size - q.length:=⟨_,rfl⟩
    rw [← hz] at HN
    have t1:((z:Int) == (s.size:Int)) = false:=by rw [beq_eq_false_iff_ne];omega
    clear hq hN hl hlt hq0 hqp hz
    go_enter Tryz.func67,Tryz.ntmps67
    go_wp2_with (go_at_call 92;(with_reducible refine HN.out.mono ?_);rintro e w1 ⟨rfl,hb⟩;have HB:=Hd hb;clear hb)
    go_ret
    exact ⟨by rw [hfin.out];rfl,HB.out⟩
 ·have hs':(65536:Int) < s.size:=by omega
  have hfin:=Hd (show (tyS s).isSome = false by rw [hT.out,decide_eq_false hs];rfl)
  clear hs
  go_enter Tryz.func67,Tryz.ntmps67
  go_wp2_with fail
  go_ret
  exact ⟨by rw [hfin.out];rfl,Below.refl _ _⟩
theorem refForm_is (r:Bool) (s:ByteArray) (w:World) (hr:(tyS s).isSome = r):Calls Tryz.prog 67 #[.string s] w fun e w'=>e = .returned (.bool r) ∧ Below w.heap.size w w':=by subst hr;exact refForm_ok s w
def SignR (ps:List Ty) (r:Ty) (w:World) (e:Ending) (w':World):Prop:=(∃ v,e = .returned (.tuple #[.string (tyB r),v]) ∧ w'.ownsRow w.heap.size 27 1 v ps.length (ps.map fun p=>.string (tyB p))) ∧ Below w.heap.size w w'
theorem signR_mk {ps:List Ty} {r:Ty} {w w':World} {x:ByteArray} {v:Value} (hx:x = tyB r) (ho:w'.ownsRow w.heap.size 27 1 v ps.length (ps.map fun p=>.string (tyB p))) (hb:Below w.heap.size w w') :
 SignR ps r w (.returned (.tuple #[.string x,v])) w':=by subst hx;exact ⟨⟨v,rfl,ho⟩,hb⟩
end Go.Proofs.YtlcfejgjeljjdaaGreatDoor
namespace Go.Proofs.YtlcfejgjeljjdaaGreatDoor
open Go.RowKit
theorem nE_code {t:Ty} (h:Right t) (q:List UInt8):nE (code t ++ q) = some q:=by
 rw [nE,code_tyF t h _ q (by rw [List.length_append];omega)];rfl
set_option maxHeartbeats 8000000 in
set_option maxRecDepth 100000 in
theorem refSplit_fn (ps:List Ty) (r:Ty) (w:World) (hr:Right (.fn ps r)) (hs:(code (.fn ps r)).length ≤ 65536):Calls Tryz.prog 160 #[.string (tyB (.fn ps r))] w (SignR ps r w):=by
 have hsz:(tyB (.fn ps r)).size ≤ 65536:=by rw [tyB_size];exact hs
 have hsz2:2 ≤ (tyB (.fn ps r)).size:=by rw [tyB_size,code];simp
 have HS:=Hd (show sfx (tyB (.fn ps r)) 2 = codes ps ++ 41 :: code r by rw [tyB_sfx];rfl)
 generalize tyB (.fn ps r) = s at *
 have HRt:=Hd hr
 have hs':(s.size:Int) ≤ 65536:=by omega
 obtain ⟨i0,hi,hz0,hz1,hz2⟩:=info_parts infoT
 have HI:=Hd (And.intro hi (And.intro hz0 (And.intro hz1 hz2)))
 have HNx:=Hd (fun k w (hk:k ≤ s.size)=>nextE_ok s k w hsz hk)
 clear hr hs hi hz0 hz1 hz2
 go_enter Tryz.func160,Tryz.ntmps160
 go_wp2_with fail
 go_loopg [4,5] ps.length (fun g lv kv wr=>∃ (done rest:List Ty) (k:Nat),rest.length = g ∧ k ≤ s.size ∧ kv = .int .i64 (k:Int) ∧ Hid (done ++ rest = ps) ∧ Hid (wr.ownsRow w.heap.size 27 1 lv done.length (done.map fun p=>.string (tyB p))) ∧ Hid (Below w.heap.size w wr) ∧ Hid (sfx s k = codes rest ++ 41 :: code r))
 case atStart=>exact ⟨[],ps,2,rfl,hsz2,rfl,rfl,World.ownsRow_made _ #[] 0 (Nat.le_refl _) (by decide) (by simp),(Below.refl _ _).alloc (Nat.le_refl _) _,HS.out⟩
 case round=>
  obtain ⟨done,rest,k,hg,hk,rfl,hps,HO,HB,hL⟩:=hrel
  cases rest with
  | nil=>
    obtain ⟨hlt,hb1,hr1⟩:=sfx_head (show sfx s k = 41 :: code r from hL.out)
    have t1:=(byte_eq hb1 (m:=41) rfl).2
    have HX:=Hd (show s.extract (k + 1) s.size = tyB r from tyB_eq (by rw [sfx_extract,hr1]))
    have HP:=Hd (show done = ps by have:=hps.out;rwa [List.append_nil] at this)
    have hk1:(k:Int) + 1 ≤ s.size:=by omega
    clear hb1 hr1
    go_wp2_with fail
    go_ret2
    refine signR_mk (by first | exact HX.out | (rw [← HX.out];congr 1)) ?_ HB.out
    have:=HO.out
    rw [HP.out] at this
    exact this
  | cons p rest=>
    have hp:Right p:=rights_at (by rw [hps.out];exact HRt.out.1)
    obtain ⟨q,eq⟩:∃ q,q = codes' rest ++ 41 :: code r:=⟨_,rfl⟩
    have hl2:sfx s k = code p ++ q:=by rw [hL.out,codes_cons,eq,List.append_assoc]
    obtain ⟨h41,_⟩:=no_head hl2 hp
    obtain ⟨hq,hpos,hle,hql⟩:=rest_sfx hl2 hk
    have hcp:=code_pos hp
    have hlt:k < s.size:=by omega
    have t1:=(byte_ne (h41 hlt) (m:=41) rfl).2
    have hn:=HNx.out k wr hk
    rw [hl2,nE_code hp] at hn
    obtain ⟨e,ee⟩:∃ e,e = s.size - q.length:=⟨_,rfl⟩
    have hN':Calls Tryz.prog 92 #[.string s,.int .i64 (k:Int)] wr (fun x w'=>x = .returned (.tuple #[.int .i64 (e:Int),.bool true]) ∧ Below wr.heap.size wr w'):=by rw [ee];exact hn
    have HN:=Hd hN'
    have HX:=Hd (show s.extract k e = tyB p from tyB_eq (by rw [ee,hpos,extract_take,hl2,List.take_left]))
    rw [← ee] at hq hpos
    have hke:k + 1 ≤ e:=by omega
    have hes:e < s.size:=by
     have:1 ≤ q.length:=by rw [eq];simp;omega
     omega
    have HP3:=Hd (show (done ++ [p]) ++ rest = ps by rw [← hps.out];simp)
    have hdl:=Hd (show done.length + 1 ≤ 70000 by
     have h1:=congrArg List.length hps.out
     have h2:=congrArg List.length HS.out
     rw [sfx_length] at h2
     have h3:ps.length ≤ (codes ps).length:=rights_len HRt.out.1
     simp at h1 h2
     omega)
    have HHk:=Hd (show e < s.size from hes)
    have hrg:rest.length + 1 = gk:=hg
    by_cases hre:rest = []
    case' pos=>
     have HQ:=Hd (show sfx s e = codes rest ++ 41 :: code r by rw [hq,eq,hre];rfl)
     have hc:s[e] = 41:=(sfx_head (show sfx s e = 41 :: code r by rw [hq,eq,hre];rfl)).2.1
     have t2:((s[e].toNat:Int) == 44) = false:=(byte_ne (d:=44) (by rw [hc];decide) rfl).1
     have hK2:∃ k2:Nat,k2 = e:=⟨_,rfl⟩
    case' neg=>
     obtain ⟨u,l,hul⟩:=List.exists_cons_of_ne_nil hre
     have hq2:sfx s e = 44 :: (codes rest ++ 41 :: code r):=by rw [hq,eq,hul,codes'_cons];rfl
     obtain ⟨_,hc,hr2⟩:=sfx_head hq2
     have HQ:=Hd hr2
     have t2:((s[e].toNat:Int) == 44) = true:=(byte_eq hc rfl).1
     have hK2:∃ k2:Nat,k2 = e + 1:=⟨_,rfl⟩
     clear hul
    all_goals
     obtain ⟨k2,hk2⟩:=hK2
     rw [← hk2] at HQ
     have hks:k2 ≤ s.size:=by omega
     have HK2:=Hd hk2
     clear hl2 h41 hq hpos hle hql hcp hn hN' ee eq hc hre hg hp hk2
     go_wp2_with (first | (go_at_call 92;(with_reducible refine HN.out.mono ?_);rintro x w4 ⟨rfl,hb4⟩;have HB4:=Ht HB hb4;have HO4:=Hd (HO.out.belowed hb4);clear hb4) | (at_builtin;refine wpList_append_own _ rfl _ _ 85 rfl w.heap.size 27 i0 (.string ⟨#[]⟩) 1 16 Tryz.underlying85 HI.out.1 HI.out.2.1 HI.out.2.2.1 HI.out.2.2.2 rfl (by decide) _ _ _ rfl (HO4.out.alloc _) ⟨w4.heap.size,0,none⟩ 1 1 [.string (s.extract k e)] rfl rfl (fun j u h=>cell_one _ _ _ j u h) (c2_str _) (c3_le hdl.out) (c4_le hdl.out) (by have:=HB4.out.size;simp;omega) ?_))
     intro v' w6 hown hgrow _
     rw [HX.out] at hown hgrow
     have HO6:=Hd (show w6.ownsRow w.heap.size 27 1 v' (done ++ [p]).length ((done ++ [p]).map fun p=>.string (tyB p)) by
      rw [List.length_append,List.map_append];exact hown)
     have HB6:=Hd ((HB4.out.alloc HB4.out.size _).grown hgrow (by have:=HB4.out.size;simp;omega) (fun q e=>(HO4.out.lt _ e).1))
     clear hown hgrow
     go_wp2_with fail
     go_roundg rest.length
     case measure=>omega
     case rel=>exact ⟨done ++ [p],rest,k2,rfl,hks,by rw [HK2.out];try rfl,HP3,HO6,HB6,HQ⟩
end Go.Proofs.YtlcfejgjeljjdaaGreatDoor
