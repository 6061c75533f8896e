/- Where a type ends, by its text: plain. · The reference's reading of a type: functions; all together. -/
import Derived.Test.YtbbaooeioogijaaGreatDoorRefNext3
import Derived.Test.YtbbaooeioogijaaGreatDoorMg2
namespace Go.Proofs.YtbbaooeioogijaaGreatDoor
open Go.RowKit
theorem tyF_more {n m:Nat} {L:List UInt8} {x:Ty × List UInt8} (hm:L.length < m) (h:tyF n L = some x):tyF m L = some x:=by
 obtain ⟨t,r⟩:=x
 obtain ⟨rfl,h1⟩:=(tyF_code n).1 _ _ _ h
 exact code_tyF t h1 m r (by rw [List.length_append] at hm;omega)
theorem tyF_fuel {n m:Nat} {L:List UInt8} (hn:L.length < n) (hm:L.length < m):tyF n L = tyF m L:=by
 rcases h:tyF m L with _ | x
 ·rcases h2:tyF n L with _ | y
  ·rfl
  ·rw [tyF_more hm h2] at h;cases h
 ·exact tyF_more hn h
theorem moreF_more {n m:Nat} {L:List UInt8} {x:List Ty × List UInt8} (hm:L.length < m) (h:moreF n L = some x):moreF m L = some x:=by
 obtain ⟨ps,r⟩:=x
 obtain ⟨rfl,h1,h2⟩:=(tyF_code n).2.2 _ _ _ h
 obtain ⟨t,l,rfl⟩:=List.exists_cons_of_ne_nil h2
 exact code_moreF t l h1.1 h1.2 m r (by simp at hm;omega)
theorem moreF_fuel {n m:Nat} {L:List UInt8} (hn:L.length < n) (hm:L.length < m):moreF n L = moreF m L:=by
 rcases h:moreF m L with _ | x
 ·rcases h2:moreF n L with _ | y
  ·rfl
  ·rw [moreF_more hm h2] at h;cases h
 ·exact moreF_more hn h
def nE (l:List UInt8):Option (List UInt8):=(tyF (l.length + 1) l).map (·.2)
def mE (l:List UInt8):Option (List UInt8):=(moreF (l.length + 1) l).map (·.2)
theorem nE_fuel {n:Nat} {L:List UInt8} (h:L.length < n):(tyF n L).map (·.2) = nE L:=by rw [nE,tyF_fuel h (Nat.lt_succ_self _)]
theorem mE_fuel {n:Nat} {L:List UInt8} (h:L.length < n):(moreF n L).map (·.2) = mE L:=by rw [mE,moreF_fuel h (Nat.lt_succ_self _)]
theorem nE_some {L q:List UInt8} (h:nE L = some q):∃ t,Right t ∧ L = code t ++ q ∧ q.length < L.length:=by
 obtain ⟨⟨t,q'⟩,h1,hq'⟩:=Option.map_eq_some_iff.1 h
 simp only at hq'
 subst hq'
 obtain ⟨h2,h3⟩:=(tyF_code _).1 _ _ _ h1
 have:=code_pos h3
 have hl:=congrArg List.length h2
 rw [List.length_append] at hl
 exact ⟨t,h3,h2,by omega⟩
def mG:List UInt8 → Option (List UInt8)
 | 41 :: r=>some r
 | 44 :: r=>mE r
 | _=>none
theorem mE_none {L:List UInt8} (h:nE L = none):mE L = none:=by
 rw [← mE_fuel (n:=L.length + 2) (by omega),moreF]
 rw [nE,Option.map_eq_none_iff] at h
 rw [h];rfl
theorem mE_some {L q:List UInt8} (h:nE L = some q):mE L = mG q:=by
 obtain ⟨_,_,_,hq⟩:=nE_some h
 obtain ⟨⟨t,q'⟩,h1,hq'⟩:=Option.map_eq_some_iff.1 h
 simp only at hq'
 subst hq'
 rw [← mE_fuel (n:=L.length + 2) (by omega),moreF,h1]
 simp only [Option.bind_some]
 match q',hq with
 | [],_=>rfl
 | c :: r,hq=>
   simp only [List.length_cons] at hq
   by_cases h41:c = 41
   ·subst h41;rfl
   ·by_cases h44:c = 44
    ·subst h44
     show Option.map (·.2) ((moreF (L.length + 1) r).map fun x=>(t :: x.1,x.2)) = mE r
     rw [← mE_fuel (n:=L.length + 1) (by omega)]
     cases moreF (L.length + 1) r <;> rfl
    ·rw [show mG (c :: r) = none by
      unfold mG
      split
      ·rename_i h;exact absurd (List.cons.inj h).1 h41
      ·rename_i h;exact absurd (List.cons.inj h).1 h44
      ·rfl]
     split
     ·rename_i h;exact absurd (List.cons.inj h).1 h41
     ·rename_i h;exact absurd (List.cons.inj h).1 h44
     ·rfl
theorem mG_no {q:List UInt8} (h1:¬ ∃ l,q = 41 :: l) (h2:¬ ∃ l,q = 44 :: l):mG q = none:=by
 unfold mG
 split
 ·exact absurd ⟨_,rfl⟩ h1
 ·exact absurd ⟨_,rfl⟩ h2
 ·rfl
def pE:List UInt8 → Option (List UInt8)
 | []=>none
 | c :: r=>if c = 41 then some r else mE (c :: r)
def sE (l:List UInt8):Option (List UInt8):=(behind 40 l).bind fun r=>(pE r).bind nE
theorem pE_len {L q:List UInt8} (h:pE L = some q):q.length < L.length:=by
 match L,h with
 | [],h=>cases h
 | c :: r,h=>
   rw [pE] at h
   split at h
   ·obtain rfl:=Option.some.inj h;simp
   ·obtain ⟨⟨ps,q'⟩,h1,rfl⟩:=Option.map_eq_some_iff.1 h
    obtain ⟨h2,_⟩:=(tyF_code _).2.2 _ _ _ h1
    have hl:=congrArg List.length h2
    simp only [List.length_append,List.length_cons] at hl ⊢
    omega
theorem sE_is {n:Nat} {l:List UInt8} (h:l.length < n):(tyF (n + 1) (102 :: l)).map (·.2) = sE l:=by
 rw [tyF,if_neg (by decide),if_neg (by decide),if_neg (by decide),if_neg (by decide),if_pos rfl,sE]
 rcases hb:behind 40 l with _ | r
 ·rfl
 ·simp only [Option.bind_some]
  obtain rfl:=behind_some hb
  simp only [List.length_cons] at h
  have hp:(parsF n r).map (·.2) = pE r:=by
   obtain ⟨k,rfl⟩:∃ k,n = k + 1:=⟨n - 1,by omega⟩
   match r,h with
   | [],_=>rw [parsF];rfl
   | c :: r,h=>
     rw [parsF,pE]
     split
     ·rfl
     ·rw [mE_fuel (by omega)]
  rw [← hp]
  rcases hq:parsF n r with _ | ⟨ps,q⟩
  ·rfl
  ·simp only [Option.bind_some,Option.map_some]
   have hl:q.length < r.length:=pE_len (hp.symm.trans (by rw [hq];rfl))
   rw [← nE_fuel (n:=n) (by omega)]
   cases tyF n q <;> rfl
end Go.Proofs.YtbbaooeioogijaaGreatDoor
namespace Go.Proofs.YtbbaooeioogijaaGreatDoor
open Go.RowKit
def NextQ (s:ByteArray) (r:Option (List UInt8)) (w:World) (e:Ending) (w':World):Prop:=
 (match r with
   | some q=>e = .returned (.tuple #[.int .i64 ((s.size - q.length:Nat):Int),.bool true])
   | none=>∃ z:Int,e = .returned (.tuple #[.int .i64 z,.bool false])) ∧ Below w.heap.size w w'
theorem nextQ_of {s:ByteArray} {r:Option (Ty × List UInt8)} {w w':World} {e:Ending} (h:NextP s r w e w'):NextQ s (r.map (·.2)) w e w':=by cases r <;> exact h
theorem nextQ_no {s:ByteArray} {r:Option (List UInt8)} {w w':World} {z:Int} (hr:r = none) (hb:Below w.heap.size w w'):NextQ s r w (.returned (.tuple #[.int .i64 z,.bool false])) w':=by subst hr;exact ⟨⟨z,rfl⟩,hb⟩
theorem nextQ_yes {s:ByteArray} {r:Option (List UInt8)} {q:List UInt8} {w w':World} {z:Int} (hr:r = some q) (hz:z = ((s.size - q.length:Nat):Int)) (hb:Below w.heap.size w w'):NextQ s r w (.returned (.tuple #[.int .i64 z,.bool true])) w':=by
 subst hr;subst hz;exact ⟨rfl,hb⟩
theorem byte_ne {c d:UInt8} (h:c ≠ d) {m:Int} (hm:(d.toNat:Int) = m):((c.toNat:Int) == m) = false ∧ ((c.toNat:Int) != m) = true:=by
 have h1:=let_no h hm
 exact ⟨h1,by rw [bne,h1];rfl⟩
theorem byte_eq {c d:UInt8} (h:c = d) {m:Int} (hm:(d.toNat:Int) = m):((c.toNat:Int) == m) = true ∧ ((c.toNat:Int) != m) = false:=by
 subst h
 have h1:((c.toNat:Int) == m) = true:=by rw [beq_iff_eq];exact hm
 exact ⟨h1,by rw [bne,h1];rfl⟩
set_option maxHeartbeats 4000000 in
set_option maxRecDepth 100000 in
theorem signed_ok (k:Nat) (s:ByteArray) (w:World) (hk:k < s.size) (hs:s.size ≤ 65536)
 (ih:∀ j w',k < j → j ≤ s.size → Calls Tryz.prog 122 #[.string s,.int .i64 (j:Int)] w' (NextQ s (nE (sfx s j)) w')) :
 Calls Tryz.prog 142 #[.string s,.int .i64 (k:Int)] w (NextQ s (sE (sfx s (k + 1))) w):=by
 have hs':(s.size:Int) ≤ 65536:=by omega
 have IH:=Hd ih
 clear ih
 by_cases h1:k + 1 < s.size
 ·by_cases h40:s[k + 1] = 40
  ·have hR:sE (sfx s (k + 1)) = (pE (sfx s (k + 2))).bind nE:=by
    rw [sE,sfx_cons s (k + 1) h1,h40];rfl
   obtain ⟨_,t2⟩:=byte_eq h40 (m:=40) rfl
   have t0:¬ ((s.size:Int) ≤ (k:Int) + 1):=by omega
   clear h40
   by_cases h41:∃ h:k + 2 < s.size,s[k + 2] = 41
   ·obtain ⟨h2,h41⟩:=h41
    have hfin:=Hd (show sE (sfx s (k + 1)) = nE (sfx s (k + 3)) by rw [hR,sfx_cons s (k + 2) h2,h41];rfl)
    obtain ⟨t3,_⟩:=byte_eq h41 (m:=41) rfl
    have HC:=Hd (IH.out (k + 3) w (by omega) (by omega))
    have hi:(((k + 3:Nat):Int)) = (k:Int) + 2 + 1:=by omega
    rw [hi] at HC
    have t4:(k:Int) + 2 < s.size:=by omega
    clear h41 hR hi
    rcases hn:nE (sfx s (k + 3)) with _ | q
    all_goals
     have hfin:=Hd (hfin.out.trans hn)
     rw [hn] at HC
     clear hn
     go_enter Tryz.func142,Tryz.ntmps142
    ·go_wp2_with (go_at_call 122;(with_reducible refine HC.out.mono ?_);rintro e w1 ⟨⟨z,rfl⟩,hb⟩;have HB:=Hd hb;clear hb)
     go_ret2
     exact nextQ_no hfin.out HB.out
    ·go_wp2_with (go_at_call 122;(with_reducible refine HC.out.mono ?_);rintro e w1 ⟨rfl,hb⟩;have HB:=Hd hb;clear hb)
     go_ret2
     exact nextQ_yes hfin.out rfl HB.out
   ·have hM:=Hd (show sE (sfx s (k + 1)) = (mE (sfx s (k + 2))).bind nE by
     rw [hR]
     congr 1
     rcases Nat.lt_or_ge (k + 2) s.size with h2 | h2
     ·rw [sfx_cons s (k + 2) h2,pE,if_neg (fun e=>h41 ⟨h2,e⟩)]
     ·rw [sfx_nil s (k + 2) h2];rfl)
    have hT:(s.size:Int) ≤ (k:Int) + 2 ∨ ∃ h:k + 2 < s.size,(k:Int) + 2 < s.size ∧ ((s[k + 2].toNat:Int) == 41) = false:=by
     rcases Nat.lt_or_ge (k + 2) s.size with h2 | h2
     ·exact .inr ⟨h2,by omega,(byte_ne (fun e=>h41 ⟨h2,e⟩) rfl).1⟩
     ·exact .inl (by omega)
    clear h41 hR
    generalize sE (sfx s (k + 1)) = R at *
    rcases hT with t3 | ⟨h2,t4,t3⟩
    all_goals
     go_enter Tryz.func142,Tryz.ntmps142
     go_wp2_with fail
     go_loopg [6] (s.size - (k + 2)) (fun g v wy=>∃ j:Nat,k + 2 ≤ j ∧ j ≤ s.size ∧ j + g = s.size ∧ v = .int .i64 (j:Int) ∧ Hid (R = (mE (sfx s j)).bind nE) ∧ Hid (Below w.heap.size w wy))
     case atStart=>exact ⟨k + 2,by omega,by omega,by omega,by rw [Int.natCast_add];rfl,hM.out,Below.refl _ _⟩
     case round=>
      obtain ⟨j,hj1,hj2,hjg,rfl,hr,HBw⟩:=hrel
      have hN:=IH.out j wr (by omega) hj2
      rcases hn:nE (sfx s j) with _ | q
      ·have hfin:=Hd (show R = none by rw [hr.out,mE_none hn];rfl)
       rw [hn] at hN
       have HN:=Hd hN
       clear hn hN
       go_wp2_with (go_at_call 122;(with_reducible refine HN.out.mono ?_);rintro e w1 ⟨⟨z,rfl⟩,hb⟩;have HB:=Ht HBw hb;clear hb)
       go_ret2
       exact nextQ_no hfin.out HB.out
      ·rw [hn] at hN
       have hq1:=Hd (show R = (mG q).bind nE by rw [hr.out,mE_some hn])
       obtain ⟨t,_,hcode,hlt⟩:=nE_some hn
       obtain ⟨hsq,hpos,hle,hql⟩:=rest_sfx hcode hj2
       obtain ⟨e,ee⟩:∃ e,e = s.size - q.length:=⟨_,rfl⟩
       rw [← ee] at hsq
       rw [sfx_length] at hlt
       have hN':Calls Tryz.prog 122 #[.string s,.int .i64 (j:Int)] wr (fun x w'=>x = .returned (.tuple #[.int .i64 (e:Int),.bool true]) ∧ Below wr.heap.size wr w'):=by rw [ee];exact hN
       have he1:j < e:=by omega
       have he2:e ≤ s.size:=by omega
       have HN:=Hd hN'
       clear hn hN hN' hcode hpos hle hql hlt ee
       by_cases hes:e < s.size
       ·have hq2:q = s[e] :: sfx s (e + 1):=by rw [← hsq,sfx_cons s e hes]
        by_cases hc41:s[e] = 41
        ·obtain ⟨t5,t6⟩:=byte_eq hc41 (m:=41) rfl
         have t7:((s[e].toNat:Int) != 44) = true:=(byte_ne (d:=44) (by rw [hc41];decide) rfl).2
         have hR3:R = nE (sfx s (e + 1)):=by rw [hq1.out,hq2,hc41];rfl
         have HC:=Hd (fun w'=>IH.out (e + 1) w' (by omega) (by omega))
         have hi:(((e + 1:Nat):Int)) = (e:Int) + 1:=by omega
         rw [hi] at HC
         clear hc41 hq2 hsq hi
         rcases hn:nE (sfx s (e + 1)) with _ | q2
         ·have hfin:=Hd (hR3.trans hn)
          rw [hn] at HC
          clear hn hR3
          go_wp2_with (first | (go_at_call 122;(with_reducible refine HN.out.mono ?_);rintro e w1 ⟨rfl,hb⟩;have HB:=Ht HBw hb;clear hb) | (go_at_call 122;(with_reducible refine (HC.out _).mono ?_);rintro e w2 ⟨⟨z,rfl⟩,hb⟩;have HB2:=Ht HB hb;clear hb))
          all_goals (go_ret2;exact nextQ_no hfin.out HB2.out)
         ·have hfin:=Hd (hR3.trans hn)
          rw [hn] at HC
          clear hn hR3
          go_wp2_with (first | (go_at_call 122;(with_reducible refine HN.out.mono ?_);rintro e w1 ⟨rfl,hb⟩;have HB:=Ht HBw hb;clear hb) | (go_at_call 122;(with_reducible refine (HC.out _).mono ?_);rintro e w2 ⟨rfl,hb⟩;have HB2:=Ht HB hb;clear hb))
          all_goals (go_ret2;exact nextQ_yes hfin.out rfl HB2.out)
        ·by_cases hc44:s[e] = 44
         ·obtain ⟨_,t6⟩:=byte_eq hc44 (m:=44) rfl
          have t7:((s[e].toNat:Int) == 41) = false:=(byte_ne hc41 rfl).1
          have hR3:=Hd (show R = (mE (sfx s (e + 1))).bind nE by rw [hq1.out,hq2,hc44];rfl)
          clear hc41 hc44 hq2 hsq
          go_wp2_with (go_at_call 122;(with_reducible refine HN.out.mono ?_);rintro e w1 ⟨rfl,hb⟩;have HB:=Ht HBw hb;clear hb)
          all_goals
           go_roundg (s.size - (e + 1))
           case measure=>omega
           case rel=>exact ⟨e + 1,by omega,by omega,by omega,by rw [Int.natCast_add];rfl,hR3,HB⟩
         ·have t6:=(byte_ne hc41 (m:=41) rfl).2
          have t7:=(byte_ne hc44 (m:=44) rfl).2
          have hfin:=Hd (show R = none by
           rw [hq1.out,mG_no (fun ⟨l,h⟩=>by rw [hq2] at h;exact hc41 (List.cons.inj h).1) (fun ⟨l,h⟩=>by rw [hq2] at h;exact hc44 (List.cons.inj h).1)];rfl)
          clear hc41 hc44 hq2 hsq
          go_wp2_with (go_at_call 122;(with_reducible refine HN.out.mono ?_);rintro e w1 ⟨rfl,hb⟩;have HB:=Ht HBw hb;clear hb)
          all_goals (go_ret2;exact nextQ_no hfin.out HB.out)
       ·have hq2:q = []:=by rw [← hsq,sfx_nil s e (by omega)]
        have hfin:=Hd (show R = none by rw [hq1.out,hq2];rfl)
        have t6:(s.size:Int) ≤ (e:Int):=by omega
        clear hq2 hsq
        go_wp2_with (go_at_call 122;(with_reducible refine HN.out.mono ?_);rintro e w1 ⟨rfl,hb⟩;have HB:=Ht HBw hb;clear hb)
        all_goals (go_ret2;exact nextQ_no hfin.out HB.out)
  ·have hfin:=Hd (show sE (sfx s (k + 1)) = none by
    rw [sE,sfx_cons s (k + 1) h1,behind,if_neg h40];rfl)
   obtain ⟨_,t2⟩:=byte_ne h40 (m:=40) rfl
   clear h40
   go_enter Tryz.func142,Tryz.ntmps142
   go_wp2_with fail
   go_ret2
   exact nextQ_no hfin.out (Below.refl _ _)
 ·have hfin:=Hd (show sE (sfx s (k + 1)) = none by rw [sfx_nil s (k + 1) (by omega)];rfl)
  have t1:(s.size:Int) ≤ (k:Int) + 1:=by omega
  go_enter Tryz.func142,Tryz.ntmps142
  go_wp2_with fail
  go_ret2
  exact nextQ_no hfin.out (Below.refl _ _)
set_option maxHeartbeats 4000000 in
theorem next_fn (n k:Nat) (s:ByteArray) (w:World) (hk:k < s.size) (hs:s.size ≤ 65536) (hc:s[k] = 102) (hn:(sfx s (k + 1)).length < n)
 (ih:∀ j w',k < j → j ≤ s.size → Calls Tryz.prog 122 #[.string s,.int .i64 (j:Int)] w' (NextQ s (nE (sfx s j)) w')) :
 Calls Tryz.prog 122 #[.string s,.int .i64 (k:Int)] w (NextP s (tyF (n + 1) (sfx s k)) w):=by
 have hR:(tyF (n + 1) (sfx s k)).map (·.2) = sE (sfx s (k + 1)):=by rw [sfx_cons s k hk,hc];exact sE_is hn
 have hS:=signed_ok k s w hk hs ih
 rw [← hR] at hS
 have hs':(s.size:Int) ≤ 65536:=by omega
 obtain ⟨v1,v2,v3,v4,v5,v6⟩:=six_no (c:=s[k]) (by rw [hc];decide)
 have v7:((s[k].toNat:Int) == 112) = false:=by rw [hc];rfl
 have v8:((s[k].toNat:Int) == 97) = false:=by rw [hc];rfl
 have v9:((s[k].toNat:Int) == 83) = false:=by rw [hc];rfl
 have v10:((s[k].toNat:Int) == 102) = true:=by rw [hc];rfl
 clear hc ih hn hR
 rcases hr:tyF (n + 1) (sfx s k) with _ | ⟨t,q⟩
 ·rw [hr] at hS
  have HS:=Hd hS
  clear hr hS
  go_enter Tryz.func122,Tryz.ntmps122
  go_wp2_with (go_at_call 142;(with_reducible refine HS.out.mono ?_);rintro e w1 ⟨⟨z,rfl⟩,hb⟩;have HB:=Hd hb;clear hb)
  go_ret2
  exact next_no rfl HB.out
 ·rw [hr] at hS
  have HS:=Hd hS
  clear hr hS
  go_enter Tryz.func122,Tryz.ntmps122
  go_wp2_with (go_at_call 142;(with_reducible refine HS.out.mono ?_);rintro e w1 ⟨rfl,hb⟩;have HB:=Hd hb;clear hb)
  go_ret2
  exact next_yes rfl rfl HB.out
theorem refNext_ok (s:ByteArray) (hs:s.size ≤ 65536):∀ (m k n:Nat) (w:World),s.size - k < m → (sfx s k).length < n → Calls Tryz.prog 122 #[.string s,.int .i64 (k:Int)] w (NextP s (tyF n (sfx s k)) w)
 | 0,_,_,_,h,_=>absurd h (Nat.not_lt_zero _)
 | m + 1,k,n,w,hm,hn=>by
   by_cases hk:k < s.size
   ·have hl:(sfx s k).length = s.size - k:=sfx_length s k
    have hl1:∀ j,(sfx s j).length = s.size - j:=fun j=>sfx_length s j
    obtain ⟨n,rfl⟩:∃ n',n = n' + 1:=⟨n - 1,by omega⟩
    have ih:∀ j w',k < j → j ≤ s.size → Calls Tryz.prog 122 #[.string s,.int .i64 (j:Int)] w' (NextP s (tyF n (sfx s j)) w'):=fun j w' h1 h2=>refNext_ok s hs m j n w' (by omega) (by rw [hl1];omega)
    by_cases h0:isBase s[k] = true
    ·exact next_base n k s w hk hs h0
    ·by_cases h1:s[k] = 112
     ·exact next_ptr n k s w hk hs h1 (ih (k + 1) w (by omega) (by omega))
     ·by_cases h2:s[k] = 97
      ·exact next_arr n k s w hk hs h2 ih
      ·by_cases h3:s[k] = 83
       ·exact next_str n k s w hk hs h3
       ·by_cases h4:s[k] = 102
        ·refine next_fn n k s w hk hs h4 (by rw [hl1];omega) fun j w' hj1 hj2=>?_
         have:=(ih j w' hj1 hj2).mono fun e w' h'=>nextQ_of h'
         rw [nE_fuel (by rw [hl1];omega)] at this
         exact this
        ·exact next_other n k s w hk hs (by simpa using h0) h1 h2 h3 h4
   ·exact next_end n k s w (by omega)
theorem nextE_ok (s:ByteArray) (k:Nat) (w:World) (hs:s.size ≤ 65536) (_hk:k ≤ s.size):Calls Tryz.prog 122 #[.string s,.int .i64 (k:Int)] w (NextQ s (nE (sfx s k)) w):=by
 have h:=refNext_ok s hs (s.size - k + 1) k ((sfx s k).length + 1) w (by omega) (by omega)
 exact h.mono fun e w' h'=>nextQ_of h'
end Go.Proofs.YtbbaooeioogijaaGreatDoor
