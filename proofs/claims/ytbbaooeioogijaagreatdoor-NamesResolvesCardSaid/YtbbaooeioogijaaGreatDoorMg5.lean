/- The reference's reading of a type: arrays. -/
import Derived.Test.YtbbaooeioogijaaGreatDoorMg4
namespace Go.Proofs.YtbbaooeioogijaaGreatDoor
open Go.RowKit
set_option maxRecDepth 100000
set_option maxHeartbeats 4000000
theorem zuc {L u r:List UInt8}{m:Nat}(hc:zbT 58 L=some (u,r))(hn:numT u=some m):runN L=u.length∧L.take (runN L)=u∧L.drop (runN L)=58 :: r:=by
 obtain⟨hL,_⟩:=zbj hc;obtain⟨hu,_⟩:=zg4 hn;have hall:u.all digB=true:=by rw[hu];exact(zcz m).1
 have h1:runN L=u.length:=by
  rw[hL];exact zmF hall (fun c hc=>by obtain rfl:=zv4 hc;rfl)
 exact⟨h1,by rw[h1,hL,List.take_left],by rw[h1,hL,List.drop_left]⟩
theorem ztG (n:Nat)(L:List UInt8):((zbT 58 L).bind fun q=>(numT q.1).bind fun m=>(tyF n q.2).map fun x=>(Ty.arr m x.1,x.2)) =
 (numT (L.take (runN L))).bind fun m=>match L.drop (runN L) with
   | 58 :: r=>(tyF n r).map fun x=>(Ty.arr m x.1,x.2)
   | _=>none:=by
 rcases hc:zbT 58 L with _|⟨u,r⟩
 ·have hno:=zep.1 hc
  simp only[Option.bind_none];cases numT (L.take (runN L)) with
  | none=>rfl
  | some m=>
    simp only[Option.bind_some]
    split
    ·rename_i r h
     exact absurd (by rw[← List.take_append_drop (runN L) L,h];simp) hno
    ·rfl
 ·simp only[Option.bind_some]
  rcases hn:numT u with _|m
  ·simp only[Option.bind_none]
   rcases hm:numT (L.take (runN L)) with _|m
   ·rfl
   ·simp only[Option.bind_some]
    split
    ·rename_i r' h
     obtain⟨hd,_⟩:=zg4 hm;have hall:(L.take (runN L)).all digB=true:=by rw[hd];exact(zcz m).1
     have hno:(58:UInt8) ∉ L.take (runN L):=fun h58=>by
      have:=List.all_eq_true.1 hall _ h58;exact absurd this (by decide)
     have e:=zeq (r:=r') hno;rw[← h,List.take_append_drop,hc]at e;obtain⟨rfl,_⟩:=Prod.mk.inj (zv4 e);rw[hn]at hm;cases hm
    ·rfl
  ·obtain⟨_,h2,h3⟩:=zuc hc hn
   rw[h2,h3,hn];simp only[Option.bind_some]
theorem zsH (n k:Nat)(s:ByteArray)(w:World)(hk:k<s.size)(hs:s.size≤65536)(hc:s[k]=97)
 (ih:∀j w',k<j→j≤s.size→Calls Tryz.prog 122 #[.string s,.int .i64 (j:Int)] w' (zfo s (tyF n (sfx s j)) w')) :
 Calls Tryz.prog 122 #[.string s,.int .i64 (k:Int)] w (zfo s (tyF (n+1) (sfx s k)) w):=by
 have ht0:tyF (n+1) (sfx s k)=(zbT 58 (sfx s (k+1))).bind fun q=>(numT q.1).bind fun m=>(tyF n q.2).map fun x=>(Ty.arr m x.1,x.2):=by
  rw[zaG s k hk,tyF,hc,if_neg (by decide),if_neg (by decide),if_pos rfl]
 have ht:=ht0.trans (ztG n (sfx s (k+1)));have hs':(s.size:Int)≤65536:=by omega
 obtain⟨v1,v2,v3,v4,v5,v6⟩:=zjP (c:=s[k]) (by rw[hc];decide);have v7:((s[k].toNat:Int) == 112)=false:=by rw[hc];rfl
 have v8:((s[k].toNat:Int) == 97)=true:=by rw[hc];rfl
 have IH:=Hd ih;have hD:=zf6 s (k+1) (by omega) (by omega);have hrl:runN (sfx s (k+1))≤s.size-(k+1):=by
  unfold runN;have:=(List.takeWhile_sublist digB (l:=sfx s (k+1))).length_le;rw[zaJ]at this;exact this
 have hX:=Hd (show (s.extract (k+1) (k+1+runN (sfx s (k+1)))).data.toList=(sfx s (k+1)).take (runN (sfx s (k+1))) by rw[za8]);have hdr:=Hd (show (sfx s (k+1)).drop (runN (sfx s (k+1)))=sfx s (k+1+runN (sfx s (k+1))) by rw[ziT]);rw[hdr.out]at ht;generalize hj:k+1+runN (sfx s (k+1))=j at *;have hj1:k+1≤j:=by omega
 have hj2:j≤s.size:=by omega
 have hWh:=zgR (s.extract (k+1) j);rw[hX.out]at hWh;generalize (sfx s (k+1)).take (runN (sfx s (k+1)))=u at *;rw[zv9]at hD;have HD:=Hd hD;have ht:=Hd ht;clear hc ih hD hX hdr hj hrl ht0;rcases hn:numT u with _|m
 ·have hfin:=Hd (ht.out.trans (by rw[hn];try rfl))
  rw[hn]at hWh;have HWh:=Hd hWh;clear hn hWh
  go_enter Tryz.func122,Tryz.ntmps122
  go_wp2_with (first|(go_at_call 140;refine(HD.out _).mono ?_;rintro e w1 ⟨rfl,hw1⟩;subst w1)|(go_at_call 141;refine(HWh.out _).mono ?_;rintro e w2 ⟨⟨z,rfl⟩,hb⟩;have HB:=Hd hb;clear hb))
  go_ret2
  exact zc7 hfin.out HB.out
 ·have htm:=ht.out
  rw[hn]at htm;simp only[Option.bind_some]at htm;rw[hn]at hWh;have HWh:=Hd hWh;clear hn hWh
  by_cases hlt:j<s.size
  ·by_cases h58:s[j]=58
   ·have t1:((s[j].toNat:Int) != 58)=false:=by rw[h58];rfl
    rw[zaG s j hlt,h58]at htm;simp only at htm;have HC:=Hd fun w'=>IH.out (j+1) w' (by omega) (by omega)
    clear h58;rcases hr:tyF n (sfx s (j+1)) with _|⟨t,q⟩
    ·rw[hr]at htm HC
     have hfin:=Hd htm;clear htm hr;rw[zv9]at HC
     go_enter Tryz.func122,Tryz.ntmps122
     go_wp2_with (first|(go_at_call 140;refine(HD.out _).mono ?_;rintro e w1 ⟨rfl,hw1⟩;subst w1)|(go_at_call 141;refine(HWh.out _).mono ?_;rintro e w2 ⟨rfl,hb⟩;have HB:=Hd hb;clear hb)|(go_at_call 122;refine(HC.out _).mono ?_;rintro e w3 ⟨⟨z,rfl⟩,hb⟩;have HB3:=Ht HB hb;clear hb))
     go_ret2
     exact zc7 hfin.out HB3.out
    ·rw[hr]at htm HC
     have hfin:=Hd htm;clear htm hr;rw[zv9]at HC
     go_enter Tryz.func122,Tryz.ntmps122
     go_wp2_with (first|(go_at_call 140;refine(HD.out _).mono ?_;rintro e w1 ⟨rfl,hw1⟩;subst w1)|(go_at_call 141;refine(HWh.out _).mono ?_;rintro e w2 ⟨rfl,hb⟩;have HB:=Hd hb;clear hb)|(go_at_call 122;refine(HC.out _).mono ?_;rintro e w3 ⟨rfl,hb⟩;have HB3:=Ht HB hb;clear hb))
     go_ret2
     exact zfd hfin.out rfl HB3.out
   ·have t1:((s[j].toNat:Int) != 58)=true:=by
     rw[bne_iff_ne];intro e;exact h58 (UInt8.toNat_inj.1 (by have h:(58:UInt8).toNat=58:=rfl;omega))
    have hfin:=Hd (show tyF (n+1) (sfx s k)=none by
     rw[htm,zaG s j hlt]
     split
     ·rename_i r h
      exact absurd (List.cons.inj h).1 h58
     ·rfl)
    clear h58 htm
    go_enter Tryz.func122,Tryz.ntmps122
    go_wp2_with (first|(go_at_call 140;refine(HD.out _).mono ?_;rintro e w1 ⟨rfl,hw1⟩;subst w1)|(go_at_call 141;refine(HWh.out _).mono ?_;rintro e w2 ⟨rfl,hb⟩;have HB:=Hd hb;clear hb))
    go_ret2
    exact zc7 hfin.out HB.out
  ·have hfin:=Hd (show tyF (n+1) (sfx s k)=none by rw[htm,zeI s j (by omega)])
   have t3:(s.size:Int)≤(j:Int):=by omega
   clear htm
   go_enter Tryz.func122,Tryz.ntmps122
   go_wp2_with (first|(go_at_call 140;refine(HD.out _).mono ?_;rintro e w1 ⟨rfl,hw1⟩;subst w1)|(go_at_call 141;refine(HWh.out _).mono ?_;rintro e w2 ⟨rfl,hb⟩;have HB:=Hd hb;clear hb))
   go_ret2
   exact zc7 hfin.out HB.out
theorem zmv {n m:Nat}{L:List UInt8}{x:Ty × List UInt8}(hm:L.length<m)(h:tyF n L=some x):tyF m L=some x:=by
 obtain⟨t,r⟩:=x;obtain⟨rfl,h1⟩:=(zcr n).1 _ _ _ h;exact zcw t h1 m r (by rw[List.length_append]at hm;omega)
theorem zrO {n m:Nat}{L:List UInt8}(hn:L.length<n)(hm:L.length<m):tyF n L=tyF m L:=by
 rcases h:tyF m L with _|x
 ·rcases h2:tyF n L with _|y
  ·rfl
  ·rw[zmv hm h2]at h;cases h
 ·exact zmv hn h
theorem zif {n m:Nat}{L:List UInt8}{x:List Ty × List UInt8}(hm:L.length<m)(h:zbJ n L=some x):zbJ m L=some x:=by
 obtain⟨ps,r⟩:=x;obtain⟨rfl,h1,h2⟩:=(zcr n).2.2 _ _ _ h;obtain⟨t,l,rfl⟩:=List.exists_cons_of_ne_nil h2;exact zfT t l h1.1 h1.2 m r (by simp at hm;omega)
theorem zon {n m:Nat}{L:List UInt8}(hn:L.length<n)(hm:L.length<m):zbJ n L=zbJ m L:=by
 rcases h:zbJ m L with _|x
 ·rcases h2:zbJ n L with _|y
  ·rfl
  ·rw[zif hm h2]at h;cases h
 ·exact zif hn h
def nE (l:List UInt8):Option (List UInt8):=(tyF (l.length+1) l).map (·.2)
def mE (l:List UInt8):Option (List UInt8):=(zbJ (l.length+1) l).map (·.2)
theorem zlP {n:Nat}{L:List UInt8}(h:L.length<n):(tyF n L).map (·.2)=nE L:=by rw[nE,zrO h (Nat.lt_succ_self _)]
theorem zi4 {n:Nat}{L:List UInt8}(h:L.length<n):(zbJ n L).map (·.2)=mE L:=by rw[mE,zon h (Nat.lt_succ_self _)]
theorem zlO {L q:List UInt8}(h:nE L=some q):∃t,zaD t∧L=code t++q∧q.length<L.length:=by
 obtain⟨⟨t,q'⟩,h1,hq'⟩:=Option.map_eq_some_iff.1 h;simp only at hq';subst hq';obtain⟨h2,h3⟩:=(zcr _).1 _ _ _ h1;have:=zb7 h3;have hl:=congrArg List.length h2;rw[List.length_append]at hl;exact⟨t,h3,h2,by omega⟩
def mG:List UInt8→Option (List UInt8)
 | 41 :: r=>some r
 | 44 :: r=>mE r
 | _=>none
theorem zuv {L:List UInt8}(h:nE L=none):mE L=none:=by
 rw[← zi4 (n:=L.length+2) (by omega),zbJ];rw[nE,Option.map_eq_none_iff]at h;rw[h];rfl
theorem zuu {L q:List UInt8}(h:nE L=some q):mE L=mG q:=by
 obtain⟨_,_,_,hq⟩:=zlO h;obtain⟨⟨t,q'⟩,h1,hq'⟩:=Option.map_eq_some_iff.1 h;simp only at hq';subst hq';rw[← zi4 (n:=L.length+2) (by omega),zbJ,h1];simp only[Option.bind_some]
 match q',hq with
 | [],_=>rfl
 | c :: r,hq=>
   simp only[List.length_cons]at hq
   by_cases h41:c=41
   ·subst h41;rfl
   ·by_cases h44:c=44
    ·subst h44
     show Option.map (·.2) ((zbJ (L.length+1) r).map fun x=>(t :: x.1,x.2))=mE r;rw[← zi4 (n:=L.length+1) (by omega)];cases zbJ (L.length+1) r<;>rfl
    ·rw[show mG (c :: r)=none by
      unfold mG
      split
      ·rename_i h;exact absurd (List.cons.inj h).1 h41
      ·rename_i h;exact absurd (List.cons.inj h).1 h44
      ·rfl]
     split
     ·rename_i h;exact absurd (List.cons.inj h).1 h41
     ·rename_i h;exact absurd (List.cons.inj h).1 h44
     ·rfl
theorem mG_no {q:List UInt8}(h1:¬∃l,q=41 :: l)(h2:¬∃l,q=44 :: l):mG q=none:=by
 unfold mG
 split
 ·exact absurd ⟨_,rfl⟩ h1
 ·exact absurd ⟨_,rfl⟩ h2
 ·rfl
def pE:List UInt8→Option (List UInt8)
 | []=>none
 | c :: r=>if c=41 then some r else mE (c :: r)
def sE (l:List UInt8):Option (List UInt8):=(behind 40 l).bind fun r=>(pE r).bind nE
theorem zvo {L q:List UInt8}(h:pE L=some q):q.length<L.length:=by
 match L,h with
 | [],h=>cases h
 | c :: r,h=>
   rw[pE]at h
   split at h
   ·obtain rfl:=zv4 h;simp
   ·obtain⟨⟨ps,q'⟩,h1,rfl⟩:=Option.map_eq_some_iff.1 h
    obtain⟨h2,_⟩:=(zcr _).2.2 _ _ _ h1;have hl:=congrArg List.length h2;simp only[List.length_append,List.length_cons]at hl ⊢;omega
theorem sE_is {n:Nat}{l:List UInt8}(h:l.length<n):(tyF (n+1) (102 :: l)).map (·.2)=sE l:=by
 rw[tyF,if_neg (by decide),if_neg (by decide),if_neg (by decide),if_neg (by decide),if_pos rfl,sE];rcases hb:behind 40 l with _|r
 ·rfl
 ·simp only[Option.bind_some]
  obtain rfl:=zhz hb;simp only[List.length_cons]at h;have hp:(zc5 n r).map (·.2)=pE r:=by
   obtain⟨k,rfl⟩:∃k,n=k+1:=⟨n-1,by omega⟩
   match r,h with
   | [],_=>rw[zc5];rfl
   | c :: r,h=>
     rw[zc5,pE]
     split
     ·rfl
     ·rw[zi4 (by omega)]
  rw[← hp];rcases hq:zc5 n r with _|⟨ps,q⟩
  ·rfl
  ·simp only[Option.bind_some,Option.map_some]
   have hl:q.length<r.length:=zvo (hp.symm.trans (by rw[hq];rfl));rw[← zlP (n:=n) (by omega)];cases tyF n q<;>rfl
set_option maxHeartbeats 4000000
def zmo (s:ByteArray)(r:Option (List UInt8))(w:World)(e:Ending)(w':World):Prop:=
 (match r with
   | some q=>e=.returned (.tuple #[.int .i64 ((s.size-q.length:Nat):Int),.bool true])
   | none=>∃z:Int,e=.returned (.tuple #[.int .i64 z,.bool false]))∧Below w.heap.size w w'
theorem zmT {s:ByteArray}{r:Option (Ty × List UInt8)}{w w':World}{e:Ending}(h:zfo s r w e w'):zmo s (r.map (·.2)) w e w':=by cases r<;>exact h
theorem zdt {s:ByteArray}{r:Option (List UInt8)}{w w':World}{z:Int}(hr:r=none)(hb:Below w.heap.size w w'):zmo s r w (.returned (.tuple #[.int .i64 z,.bool false])) w':=by subst hr;exact⟨⟨z,rfl⟩,hb⟩
theorem zkg {s:ByteArray}{r:Option (List UInt8)}{q:List UInt8}{w w':World}{z:Int}(hr:r=some q)(hz:z=((s.size-q.length:Nat):Int))(hb:Below w.heap.size w w'):zmo s r w (.returned (.tuple #[.int .i64 z,.bool true])) w':=by
 subst hr;subst hz;exact⟨rfl,hb⟩
theorem zaQ {c d:UInt8}(h:c≠d){m:Int}(hm:(d.toNat:Int)=m):((c.toNat:Int) == m)=false∧((c.toNat:Int) != m)=true:=by
 have h1:=zkt h hm;exact⟨h1,by rw[bne,h1];rfl⟩
theorem zdy {c d:UInt8}(h:c=d){m:Int}(hm:(d.toNat:Int)=m):((c.toNat:Int) == m)=true∧((c.toNat:Int) != m)=false:=by
 subst h;have h1:((c.toNat:Int) == m)=true:=by rw[beq_iff_eq];exact hm
 exact⟨h1,by rw[bne,h1];rfl⟩
theorem zpq (k:Nat)(s:ByteArray)(w:World)(hk:k<s.size)(hs:s.size≤65536)
 (ih:∀j w',k<j→j≤s.size→Calls Tryz.prog 122 #[.string s,.int .i64 (j:Int)] w' (zmo s (nE (sfx s j)) w')) :
 Calls Tryz.prog 142 #[.string s,.int .i64 (k:Int)] w (zmo s (sE (sfx s (k+1))) w):=by
 have hs':(s.size:Int)≤65536:=by omega
 have IH:=Hd ih;clear ih
 by_cases h1:k+1<s.size
 ·by_cases h40:s[k+1]=40
  ·have hR:sE (sfx s (k+1))=(pE (sfx s (k+2))).bind nE:=by
    rw[sE,zaG s (k+1) h1,h40];rfl
   obtain⟨_,t2⟩:=zdy h40 (m:=40) rfl;have t0:¬((s.size:Int)≤(k:Int)+1):=by omega
   clear h40
   by_cases h41:∃h:k+2<s.size,s[k+2]=41
   ·obtain⟨h2,h41⟩:=h41
    have hfin:=Hd (show sE (sfx s (k+1))=nE (sfx s (k+3)) by rw[hR,zaG s (k+2) h2,h41];rfl);obtain⟨t3,_⟩:=zdy h41 (m:=41) rfl;have HC:=Hd (IH.out (k+3) w (by omega) (by omega));have hi:(((k+3:Nat):Int))=(k:Int)+2+1:=by omega
    rw[hi]at HC;have t4:(k:Int)+2<s.size:=by omega
    clear h41 hR hi;rcases hn:nE (sfx s (k+3)) with _|q
    all_goals
     have hfin:=Hd (hfin.out.trans hn);rw[hn]at HC;clear hn
     go_enter Tryz.func142,Tryz.ntmps142
    ·go_wp2_with (go_at_call 122;(with_reducible refine HC.out.mono ?_);rintro e w1 ⟨⟨z,rfl⟩,hb⟩;have HB:=Hd hb;clear hb)
     go_ret2
     exact zdt hfin.out HB.out
    ·go_wp2_with (go_at_call 122;(with_reducible refine HC.out.mono ?_);rintro e w1 ⟨rfl,hb⟩;have HB:=Hd hb;clear hb)
     go_ret2
     exact zkg hfin.out rfl HB.out
   ·have hM:=Hd (show sE (sfx s (k+1))=(mE (sfx s (k+2))).bind nE by
     rw[hR]
     congr 1
     rcases Nat.lt_or_ge (k+2) s.size with h2|h2
     ·rw[zaG s (k+2) h2,pE,if_neg (fun e=>h41 ⟨h2,e⟩)]
     ·rw[zeI s (k+2) h2];rfl)
    have hT:(s.size:Int)≤(k:Int)+2∨∃h:k+2<s.size,(k:Int)+2<s.size∧((s[k+2].toNat:Int) == 41)=false:=by
     rcases Nat.lt_or_ge (k+2) s.size with h2|h2
     ·exact .inr ⟨h2,by omega,(zaQ (fun e=>h41 ⟨h2,e⟩) rfl).1⟩
     ·exact .inl (by omega)
    clear h41 hR;generalize sE (sfx s (k+1))=R at *;rcases hT with t3|⟨h2,t4,t3⟩
    all_goals
     go_enter Tryz.func142,Tryz.ntmps142
     go_wp2_with fail
     go_loopg [6] (s.size-(k+2)) (fun g v wy=>∃j:Nat,k+2≤j∧j≤s.size∧j+g=s.size∧v=.int .i64 (j:Int)∧Hid (R=(mE (sfx s j)).bind nE)∧Hid (Below w.heap.size w wy))
     case atStart=>exact⟨k+2,by omega,by omega,by omega,by rw[zv9];rfl,hM.out,zv3 _ _⟩
     case round=>
      obtain⟨j,hj1,hj2,hjg,rfl,hr,HBw⟩:=hrel;have hN:=IH.out j wr (by omega) hj2;rcases hn:nE (sfx s j) with _|q
      ·have hfin:=Hd (show R=none by rw[hr.out,zuv hn];rfl)
       rw[hn]at hN;have HN:=Hd hN;clear hn hN
       go_wp2_with (go_at_call 122;(with_reducible refine HN.out.mono ?_);rintro e w1 ⟨⟨z,rfl⟩,hb⟩;have HB:=Ht HBw hb;clear hb)
       go_ret2
       exact zdt hfin.out HB.out
      ·rw[hn]at hN
       have hq1:=Hd (show R=(mG q).bind nE by rw[hr.out,zuu hn]);obtain⟨t,_,hcode,hlt⟩:=zlO hn;obtain⟨hsq,hpos,hle,hql⟩:=zcQ hcode hj2;obtain⟨e,ee⟩:∃e,e=s.size-q.length:=⟨_,rfl⟩
       rw[← ee]at hsq;rw[zaJ]at hlt;have hN':Calls Tryz.prog 122 #[.string s,.int .i64 (j:Int)] wr (fun x w'=>x=.returned (.tuple #[.int .i64 (e:Int),.bool true])∧Below wr.heap.size wr w'):=by rw[ee];exact hN
       have he1:j<e:=by omega
       have he2:e≤s.size:=by omega
       have HN:=Hd hN';clear hn hN hN' hcode hpos hle hql hlt ee
       by_cases hes:e<s.size
       ·have hq2:q=s[e] :: sfx s (e+1):=by rw[← hsq,zaG s e hes]
        by_cases hc41:s[e]=41
        ·obtain⟨t5,t6⟩:=zdy hc41 (m:=41) rfl
         have t7:((s[e].toNat:Int) != 44)=true:=(zaQ (d:=44) (by rw[hc41];decide) rfl).2;have hR3:R=nE (sfx s (e+1)):=by rw[hq1.out,hq2,hc41];rfl
         have HC:=Hd (fun w'=>IH.out (e+1) w' (by omega) (by omega));have hi:(((e+1:Nat):Int))=(e:Int)+1:=by omega
         rw[hi]at HC;clear hc41 hq2 hsq hi;rcases hn:nE (sfx s (e+1)) with _|q2
         ·have hfin:=Hd (hR3.trans hn)
          rw[hn]at HC;clear hn hR3
          go_wp2_with (first|(go_at_call 122;(with_reducible refine HN.out.mono ?_);rintro e w1 ⟨rfl,hb⟩;have HB:=Ht HBw hb;clear hb)|(go_at_call 122;(with_reducible refine(HC.out _).mono ?_);rintro e w2 ⟨⟨z,rfl⟩,hb⟩;have HB2:=Ht HB hb;clear hb))
          all_goals (go_ret2;exact zdt hfin.out HB2.out)
         ·have hfin:=Hd (hR3.trans hn)
          rw[hn]at HC;clear hn hR3
          go_wp2_with (first|(go_at_call 122;(with_reducible refine HN.out.mono ?_);rintro e w1 ⟨rfl,hb⟩;have HB:=Ht HBw hb;clear hb)|(go_at_call 122;(with_reducible refine(HC.out _).mono ?_);rintro e w2 ⟨rfl,hb⟩;have HB2:=Ht HB hb;clear hb))
          all_goals (go_ret2;exact zkg hfin.out rfl HB2.out)
        ·by_cases hc44:s[e]=44
         ·obtain⟨_,t6⟩:=zdy hc44 (m:=44) rfl
          have t7:((s[e].toNat:Int) == 41)=false:=(zaQ hc41 rfl).1;have hR3:=Hd (show R=(mE (sfx s (e+1))).bind nE by rw[hq1.out,hq2,hc44];rfl);clear hc41 hc44 hq2 hsq
          go_wp2_with (go_at_call 122;(with_reducible refine HN.out.mono ?_);rintro e w1 ⟨rfl,hb⟩;have HB:=Ht HBw hb;clear hb)
          all_goals
           go_roundg (s.size-(e+1))
           case measure=>omega
           case rel=>exact⟨e+1,by omega,by omega,by omega,by rw[zv9];rfl,hR3,HB⟩
         ·have t6:=(zaQ hc41 (m:=41) rfl).2
          have t7:=(zaQ hc44 (m:=44) rfl).2
          have hfin:=Hd (show R=none by
           rw[hq1.out,mG_no (fun ⟨l,h⟩=>by rw[hq2]at h;exact hc41 (List.cons.inj h).1) (fun ⟨l,h⟩=>by rw[hq2]at h;exact hc44 (List.cons.inj h).1)];rfl)
          clear hc41 hc44 hq2 hsq
          go_wp2_with (go_at_call 122;(with_reducible refine HN.out.mono ?_);rintro e w1 ⟨rfl,hb⟩;have HB:=Ht HBw hb;clear hb)
          all_goals (go_ret2;exact zdt hfin.out HB.out)
       ·have hq2:q=[]:=by rw[← hsq,zeI s e (by omega)]
        have hfin:=Hd (show R=none by rw[hq1.out,hq2];rfl);have t6:(s.size:Int)≤(e:Int):=by omega
        clear hq2 hsq
        go_wp2_with (go_at_call 122;(with_reducible refine HN.out.mono ?_);rintro e w1 ⟨rfl,hb⟩;have HB:=Ht HBw hb;clear hb)
        all_goals (go_ret2;exact zdt hfin.out HB.out)
  ·have hfin:=Hd (show sE (sfx s (k+1))=none by
    rw[sE,zaG s (k+1) h1,behind,if_neg h40];rfl)
   obtain⟨_,t2⟩:=zaQ h40 (m:=40) rfl;clear h40
   go_enter Tryz.func142,Tryz.ntmps142
   go_wp2_with fail
   go_ret2
   exact zdt hfin.out (zv3 _ _)
 ·have hfin:=Hd (show sE (sfx s (k+1))=none by rw[zeI s (k+1) (by omega)];rfl)
  have t1:(s.size:Int)≤(k:Int)+1:=by omega
  go_enter Tryz.func142,Tryz.ntmps142
  go_wp2_with fail
  go_ret2
  exact zdt hfin.out (zv3 _ _)
theorem zul (n k:Nat)(s:ByteArray)(w:World)(hk:k<s.size)(hs:s.size≤65536)(hc:s[k]=102)(hn:(sfx s (k+1)).length<n)
 (ih:∀j w',k<j→j≤s.size→Calls Tryz.prog 122 #[.string s,.int .i64 (j:Int)] w' (zmo s (nE (sfx s j)) w')) :
 Calls Tryz.prog 122 #[.string s,.int .i64 (k:Int)] w (zfo s (tyF (n+1) (sfx s k)) w):=by
 have hR:(tyF (n+1) (sfx s k)).map (·.2)=sE (sfx s (k+1)):=by rw[zaG s k hk,hc];exact sE_is hn
 have hS:=zpq k s w hk hs ih;rw[← hR]at hS;have hs':(s.size:Int)≤65536:=by omega
 obtain⟨v1,v2,v3,v4,v5,v6⟩:=zjP (c:=s[k]) (by rw[hc];decide);have v7:((s[k].toNat:Int) == 112)=false:=by rw[hc];rfl
 have v8:((s[k].toNat:Int) == 97)=false:=by rw[hc];rfl
 have v9:((s[k].toNat:Int) == 83)=false:=by rw[hc];rfl
 have v10:((s[k].toNat:Int) == 102)=true:=by rw[hc];rfl
 clear hc ih hn hR;rcases hr:tyF (n+1) (sfx s k) with _|⟨t,q⟩
 ·rw[hr]at hS
  have HS:=Hd hS;clear hr hS
  go_enter Tryz.func122,Tryz.ntmps122
  go_wp2_with (go_at_call 142;(with_reducible refine HS.out.mono ?_);rintro e w1 ⟨⟨z,rfl⟩,hb⟩;have HB:=Hd hb;clear hb)
  go_ret2
  exact zc7 rfl HB.out
 ·rw[hr]at hS
  have HS:=Hd hS;clear hr hS
  go_enter Tryz.func122,Tryz.ntmps122
  go_wp2_with (go_at_call 142;(with_reducible refine HS.out.mono ?_);rintro e w1 ⟨rfl,hb⟩;have HB:=Hd hb;clear hb)
  go_ret2
  exact zfd rfl rfl HB.out
theorem zh5 (s:ByteArray)(hs:s.size≤65536):∀(m k n:Nat) (w:World),s.size-k<m→(sfx s k).length<n→Calls Tryz.prog 122 #[.string s,.int .i64 (k:Int)] w (zfo s (tyF n (sfx s k)) w)
 | 0,_,_,_,h,_=>absurd h (Nat.not_lt_zero _)
 | m+1,k,n,w,hm,hn=>by
   by_cases hk:k<s.size
   ·have hl:(sfx s k).length=s.size-k:=zaJ s k
    have hl1:∀j,(sfx s j).length=s.size-j:=fun j=>zaJ s j
    obtain⟨n,rfl⟩:∃n',n=n'+1:=⟨n-1,by omega⟩
    have ih:∀j w',k<j→j≤s.size→Calls Tryz.prog 122 #[.string s,.int .i64 (j:Int)] w' (zfo s (tyF n (sfx s j)) w'):=fun j w' h1 h2=>zh5 s hs m j n w' (by omega) (by rw[hl1];omega)
    by_cases h0:zbz s[k]=true
    ·exact zp2 n k s w hk hs h0
    ·by_cases h1:s[k]=112
     ·exact zsF n k s w hk hs h1 (ih (k+1) w (by omega) (by omega))
     ·by_cases h2:s[k]=97
      ·exact zsH n k s w hk hs h2 ih
      ·by_cases h3:s[k]=83
       ·exact zsE n k s w hk hs h3
       ·by_cases h4:s[k]=102
        ·refine zul n k s w hk hs h4 (by rw[hl1];omega) fun j w' hj1 hj2=>?_
         have:=(ih j w' hj1 hj2).mono fun e w' h'=>zmT h'
         rw[zlP (by rw[hl1];omega)]at this;exact this
        ·exact zol n k s w hk hs (by simpa using h0) h1 h2 h3 h4
   ·exact zsG n k s w (by omega)
theorem zmU (s:ByteArray)(k:Nat)(w:World)(hs:s.size≤65536)(_hk:k≤s.size):Calls Tryz.prog 122 #[.string s,.int .i64 (k:Int)] w (zmo s (nE (sfx s k)) w):=by
 have h:=zh5 s hs (s.size-k+1) k ((sfx s k).length+1) w (by omega) (by omega);exact h.mono fun e w' h'=>zmT h'
set_option maxHeartbeats 2000000
theorem znL (s:ByteArray):(tyS s).isSome=(decide (s.size≤65536) && decide (nE s.data.toList=some [])):=by
 unfold tyS
 by_cases hs:s.size≤65536
 ·rw[if_pos hs,decide_eq_true hs,Bool.true_and]
  unfold tyE;rw[← zlP (n:=2*s.data.toList.length+1) (by omega)];rcases tyF (2*s.data.toList.length+1) s.data.toList with _|⟨t,q⟩
  ·rfl
  ·simp only[Option.bind_some,Option.map_some,Option.some.injEq]
   by_cases hq:q=[]
   ·rw[if_pos hq,decide_eq_true hq];rfl
   ·rw[if_neg hq,decide_eq_false hq];rfl
 ·rw[if_neg hs,decide_eq_false hs];rfl
theorem zob (s:ByteArray)(w:World):Calls Tryz.prog 92 #[.string s] w fun e w'=>e=.returned (.bool (tyS s).isSome)∧Below w.heap.size w w':=by
 have hT:=Hd (znL s)
 by_cases hs:s.size≤65536
 ·have hs':(s.size:Int)≤65536:=by omega
  have hN:=zmU s 0 w hs (Nat.zero_le _);rw[zsb,Int.ofNat_zero]at hN;rcases hq:nE s.data.toList with _|q
  ·rw[hq]at hN
   have HN:=Hd hN;have hfin:=Hd (show (tyS s).isSome=false by rw[hT.out,hq];simp);clear hq hN
   go_enter Tryz.func92,Tryz.ntmps92
   go_wp2_with (go_at_call 122;(with_reducible refine HN.out.mono ?_);rintro e w1 ⟨⟨z,rfl⟩,hb⟩;have HB:=Hd hb;clear hb)
   go_ret;exact⟨by rw[hfin.out];rfl,HB.out⟩
  ·rw[hq]at hN
   have hN:Calls Tryz.prog 122 #[.string s,.int .i64 0] w (fun x w'=>x=.returned (.tuple #[.int .i64 ((s.size-q.length:Nat):Int),.bool true])∧Below w.heap.size w w'):=hN;have HN:=Hd hN;obtain⟨_,_,_,hlt⟩:=zlO hq;have hl:s.data.toList.length=s.size:=by rw[Array.length_toList];rfl
   rw[hl]at hlt
   by_cases hq0:q=[]
   ·have hfin:=Hd (show (tyS s).isSome=true by rw[hT.out,hq,hq0];simp[hs])
    have HZ:=Hd (show s.size-q.length=s.size by rw[hq0];rfl);rw[HZ.out]at HN;clear hq hN hl hlt hq0
    go_enter Tryz.func92,Tryz.ntmps92
    go_wp2_with (go_at_call 122;(with_reducible refine HN.out.mono ?_);rintro e w1 ⟨rfl,hb⟩;have HB:=Hd hb;clear hb)
    go_ret;exact⟨by rw[hfin.out];simp,HB.out⟩
   ·have hfin:=Hd (show (tyS s).isSome=false by rw[hT.out,hq];simp[hq0])
    have hqp:=zwc hq0;obtain⟨z,hz⟩:∃z,z=s.size-q.length:=⟨_,rfl⟩
    rw[← hz]at HN;have t1:((z:Int) == (s.size:Int))=false:=by rw[zwa];omega
    clear hq hN hl hlt hq0 hqp hz
    go_enter Tryz.func92,Tryz.ntmps92
    go_wp2_with (go_at_call 122;(with_reducible refine HN.out.mono ?_);rintro e w1 ⟨rfl,hb⟩;have HB:=Hd hb;clear hb)
    go_ret;exact⟨by rw[hfin.out];rfl,HB.out⟩
 ·have hs':(65536:Int)<s.size:=by omega
  have hfin:=Hd (show (tyS s).isSome=false by rw[hT.out,decide_eq_false hs];rfl);clear hs
  go_enter Tryz.func92,Tryz.ntmps92
  go_wp2_with fail
  go_ret;exact⟨by rw[hfin.out];rfl,zv3 _ _⟩
theorem zbX (r:Bool)(s:ByteArray)(w:World)(hr:(tyS s).isSome=r):Calls Tryz.prog 92 #[.string s] w fun e w'=>e=.returned (.bool r)∧Below w.heap.size w w':=by subst hr;exact zob s w
def zvV (ps:List Ty)(r:Ty)(w:World)(e:Ending)(w':World):Prop:=(∃v,e=.returned (.tuple #[.string (tyB r),v])∧w'.ownsRow w.heap.size 40 1 v ps.length (ps.map fun p=>.string (tyB p)))∧Below w.heap.size w w'
theorem zr8 {ps:List Ty}{r:Ty}{w w':World}{x:ByteArray}{v:Value}(hx:x=tyB r)(ho:w'.ownsRow w.heap.size 40 1 v ps.length (ps.map fun p=>.string (tyB p)))(hb:Below w.heap.size w w') :
 zvV ps r w (.returned (.tuple #[.string x,v])) w':=by subst hx;exact⟨⟨v,rfl,ho⟩,hb⟩
set_option maxHeartbeats 8000000
theorem zuq {t:Ty}(h:zaD t)(q:List UInt8):nE (code t++q)=some q:=by
 rw[nE,zcw t h _ q (by rw[List.length_append];omega)];rfl
theorem zeL (ps:List Ty)(r:Ty)(w:World)(hr:zaD (.fn ps r))(hs:(code (.fn ps r)).length≤65536):Calls Tryz.prog 94 #[.string (tyB (.fn ps r))] w (zvV ps r w):=by
 have hsz:(tyB (.fn ps r)).size≤65536:=by rw[zba];exact hs
 have hsz2:2≤(tyB (.fn ps r)).size:=by rw[zba,code];simp
 have HS:=Hd (show sfx (tyB (.fn ps r)) 2=zbw ps++41 :: code r by rw[zeC];rfl);generalize tyB (.fn ps r)=s at *;have HRt:=Hd hr;have hs':(s.size:Int)≤65536:=by omega
 obtain⟨i0,hi,hz0,hz1,hz2⟩:=info_parts zs6;have HI:=Hd (And.intro hi (And.intro hz0 (And.intro hz1 hz2)));have HNx:=Hd (fun k w (hk:k≤s.size)=>zmU s k w hsz hk);clear hr hs hi hz0 hz1 hz2
 go_enter Tryz.func94,Tryz.ntmps94
 go_wp2_with fail
 go_loopg [4,5] ps.length (fun g lv kv wr=>∃(done rest:List Ty) (k:Nat),rest.length=g∧k≤s.size∧kv=.int .i64 (k:Int)∧Hid (done++rest=ps)∧Hid (wr.ownsRow w.heap.size 40 1 lv done.length (done.map fun p=>.string (tyB p)))∧Hid (Below w.heap.size w wr)∧Hid (sfx s k=zbw rest++41 :: code r))
 case atStart=>exact⟨[],ps,2,rfl,hsz2,rfl,rfl,World.ownsRow_made _ #[] 0 (zv0 _) (by decide) (by simp),(zv3 _ _).alloc (zv0 _) _,HS.out⟩
 case round=>
  obtain⟨done,rest,k,hg,hk,rfl,hps,HO,HB,hL⟩:=hrel;cases rest with
  | nil=>
    obtain⟨hlt,hb1,hr1⟩:=zbM (show sfx s k=41 :: code r from hL.out);have t1:=(zdy hb1 (m:=41) rfl).2;have HX:=Hd (show s.extract (k+1) s.size=tyB r from zgF (by rw[zcB,hr1]));have HP:=Hd (show done=ps by have:=hps.out;rwa [List.append_nil]at this);have hk1:(k:Int)+1≤s.size:=by omega
    clear hb1 hr1
    go_wp2_with fail
    go_ret2
    refine zr8 (by first|exact HX.out|(rw[← HX.out];congr 1)) ?_ HB.out;have:=HO.out;rw[HP.out]at this;exact this
  | cons p rest=>
    have hp:zaD p:=zcC (by rw[hps.out];exact HRt.out.1);obtain⟨q,eq⟩:∃q,q=zcL rest++41 :: code r:=⟨_,rfl⟩
    have hl2:sfx s k=code p++q:=by rw[hL.out,zaO,eq,List.append_assoc]
    obtain⟨h41,_⟩:=zp1 hl2 hp;obtain⟨hq,hpos,hle,hql⟩:=zcQ hl2 hk;have hcp:=zb7 hp;have hlt:k<s.size:=by omega
    have t1:=(zaQ (h41 hlt) (m:=41) rfl).2;have hn:=HNx.out k wr hk;rw[hl2,zuq hp]at hn;obtain⟨e,ee⟩:∃e,e=s.size-q.length:=⟨_,rfl⟩
    have hN':Calls Tryz.prog 122 #[.string s,.int .i64 (k:Int)] wr (fun x w'=>x=.returned (.tuple #[.int .i64 (e:Int),.bool true])∧Below wr.heap.size wr w'):=by rw[ee];exact hn
    have HN:=Hd hN';have HX:=Hd (show s.extract k e=tyB p from zgF (by rw[ee,hpos,za8,hl2,List.take_left]));rw[← ee]at hq hpos;have hke:k+1≤e:=by omega
    have hes:e<s.size:=by
     have:1≤q.length:=by rw[eq];simp;omega
     omega
    have HP3:=Hd (show (done++[p])++rest=ps by rw[← hps.out];simp)
    have hdl:=Hd (show done.length+1≤70000 by
     have h1:=congrArg List.length hps.out;have h2:=congrArg List.length HS.out;rw[zaJ]at h2;have h3:ps.length≤(zbw ps).length:=zcy HRt.out.1;simp at h1 h2
     omega)
    have HHk:=Hd (show e<s.size from hes);have hrg:rest.length+1=gk:=hg
    by_cases hre:rest=[]
    case' pos=>
     have HQ:=Hd (show sfx s e=zbw rest++41 :: code r by rw[hq,eq,hre];rfl);have hc:s[e]=41:=(zbM (show sfx s e=41 :: code r by rw[hq,eq,hre];rfl)).2.1;have t2:((s[e].toNat:Int) == 44)=false:=(zaQ (d:=44) (by rw[hc];decide) rfl).1;have hK2:∃k2:Nat,k2=e:=⟨_,rfl⟩
    case' neg=>
     obtain⟨u,l,hul⟩:=List.exists_cons_of_ne_nil hre;have hq2:sfx s e=44 :: (zbw rest++41 :: code r):=by rw[hq,eq,hul,zbs];rfl
     obtain⟨_,hc,hr2⟩:=zbM hq2;have HQ:=Hd hr2;have t2:((s[e].toNat:Int) == 44)=true:=(zdy hc rfl).1;have hK2:∃k2:Nat,k2=e+1:=⟨_,rfl⟩
     clear hul
    all_goals
     obtain⟨k2,hk2⟩:=hK2;rw[← hk2]at HQ;have hks:k2≤s.size:=by omega
     have HK2:=Hd hk2;clear hl2 h41 hq hpos hle hql hcp hn hN' ee eq hc hre hg hp hk2
     go_wp2_with (first|(go_at_call 122;(with_reducible refine HN.out.mono ?_);rintro x w4 ⟨rfl,hb4⟩;have HB4:=Ht HB hb4;have HO4:=Hd (HO.out.belowed hb4);clear hb4)|(at_builtin;refine wpList_append_own _ rfl _ _ 140 rfl w.heap.size 40 i0 (.string ⟨#[]⟩) 1 16 Tryz.underlying140 HI.out.1 HI.out.2.1 HI.out.2.2.1 HI.out.2.2.2 rfl (by decide) _ _ _ rfl (HO4.out.alloc _) ⟨w4.heap.size,0,none⟩ 1 1 [.string (s.extract k e)] rfl rfl (fun j u h=>zjo _ _ _ j u h) (zrm _) (zuY hdl.out) (zuX hdl.out) (by have:=HB4.out.size;simp;omega) ?_))
     intro v' w6 hown hgrow _;rw[HX.out]at hown hgrow
     have HO6:=Hd (show w6.ownsRow w.heap.size 40 1 v' (done++[p]).length ((done++[p]).map fun p=>.string (tyB p)) by
      rw[List.length_append,List.map_append];exact hown)
     have HB6:=Hd ((HB4.out.alloc HB4.out.size _).grown hgrow (by have:=HB4.out.size;simp;omega) (fun q e=>(HO4.out.lt _ e).1));clear hown hgrow
     go_wp2_with fail
     go_roundg rest.length
     case measure=>omega
     case rel=>exact⟨done++[p],rest,k2,rfl,hks,by rw[HK2.out];try rfl,HP3,HO6,HB6,HQ⟩
theorem zlx (s:ByteArray)(w:World):Calls Tryz.prog 152 #[.string s] w fun e w'=>e=.returned (.bool (zaX s))∧w'=w:=by
 by_cases h1:s=⟨#[99]⟩
 ·have hfin:=Hd (show zaX s=true by rw[h1,zaX,zcP (by decide)];rfl)
  have t1:(s.toList == [99])=true:=by rw[zbp];simpa using h1
  clear h1
  go_enter Tryz.func152,Tryz.ntmps152
  go_wp2_with fail
  go_ret;exact⟨by rw[hfin.out];rfl,rfl⟩
 ·have t1:(s.toList == [99])=false:=by rw[zbp];simpa using h1
  by_cases h2:s=⟨#[115]⟩
  ·have hfin:=Hd (show zaX s=true by rw[h2,zaX,zcP (by decide)];rfl)
   have t2:(s.toList == [115])=true:=by rw[zbp];simpa using h2
   clear h1 h2
   go_enter Tryz.func152,Tryz.ntmps152
   go_wp2_with fail
   go_ret;exact⟨by rw[hfin.out];rfl,rfl⟩
  ·have t2:(s.toList == [115])=false:=by rw[zbp];simpa using h2
   by_cases h3:s=⟨#[105]⟩
   ·have hfin:=Hd (show zaX s=true by rw[h3,zaX,zcP (by decide)];rfl)
    have t3:(s.toList == [105])=true:=by rw[zbp];simpa using h3
    clear h1 h2 h3
    go_enter Tryz.func152,Tryz.ntmps152
    go_wp2_with fail
    go_ret;exact⟨by rw[hfin.out];rfl,rfl⟩
   ·have t3:(s.toList == [105])=false:=by rw[zbp];simpa using h3
    by_cases h4:s=⟨#[117]⟩
    ·have hfin:=Hd (show zaX s=true by rw[h4,zaX,zcP (by decide)];rfl)
     have t4:(s.toList == [117])=true:=by rw[zbp];simpa using h4
     clear h1 h2 h3 h4
     go_enter Tryz.func152,Tryz.ntmps152
     go_wp2_with fail
     go_ret;exact⟨by rw[hfin.out];rfl,rfl⟩
    ·have t4:(s.toList == [117])=false:=by rw[zbp];simpa using h4
     have hfin:=Hd (zir h1 h2 h3 h4);clear h1 h2 h3 h4
     go_enter Tryz.func152,Tryz.ntmps152
     go_wp2_with fail
     go_ret;exact⟨by rw[hfin.out];rfl,rfl⟩
theorem zly (r:Bool)(s:ByteArray)(w:World)(hr:zaX s=r):Calls Tryz.prog 152 #[.string s] w fun e w'=>e=.returned (.bool r)∧w'=w:=by subst hr;exact zlx s w
theorem zcj (m:Int)(t:Ty)(w:World)(hm:((headT t).toNat:Int)=m):Calls Tryz.prog 93 #[.string (tyB t)] w fun e w'=>e=.returned (.int .u8 m)∧w'=w:=by subst hm;exact za6 t w
set_option maxHeartbeats 1000000
theorem zhI (s:ByteArray)(w:World):Calls Tryz.prog 139 #[.string s] w fun e w'=>e=.returned (.bool (zbk s))∧Below w.heap.size w w':=by
 rcases h:tyS s with _|t
 ·have HF:=Hd (zbX false s w (by rw[h];rfl))
  have hfin:=Hd (show zbk s=false by unfold zbk;rw[h];rfl);clear h
  go_enter Tryz.func139,Tryz.ntmps139
  go_wp2_with (go_at_call 92;(with_reducible refine HF.out.mono ?_);rintro e w1 ⟨rfl,hb1⟩)
  go_ret;exact⟨by rw[hfin.out];rfl,hb1⟩
 ·have HF:=Hd (zbX true s w (by rw[h];rfl))
  obtain⟨hs,hr,hl⟩:=zaW.1 h;have hi:zaX s=zhf t:=by unfold zaX;rw[h];rfl
  have hsc:zbk s=(zhf t || isPtrT t):=by unfold zbk;rw[h];rfl
  have HI:=Hd (fun w=>zly (zhf t) s w hi);rcases h1:zhf t with _|_
  ·have hp:(((headT t).toNat:Int) == 112)=isPtrT t:=by
    cases t with
    | base c=>rcases zaM hr with rfl|rfl|rfl|rfl|rfl|rfl<;>rfl
    | _=>rfl
   have hk:=fun w=>za6 t w
   rw[← hs]at hk;have HK:=Hd hk;have hfin:=Hd (show zbk s=isPtrT t by rw[hsc,h1];rfl);rw[h1]at HI;generalize headT t=c at *;generalize isPtrT t=b at *;clear h hs hr hl hi hsc h1 hk
   go_enter Tryz.func139,Tryz.ntmps139
   go_wp2_with (first|(go_at_call 92;(with_reducible refine HF.out.mono ?_);rintro e w1 ⟨rfl,hb1⟩;have HB1:=Hd hb1;clear hb1)|(go_at_call 152;(with_reducible refine(HI.out _).mono ?_);rintro e w2 ⟨rfl,hw2⟩;subst w2)|(go_at_call 93;(with_reducible refine(HK.out _).mono ?_);rintro e w2 ⟨rfl,hw2⟩;subst w2))
   go_ret;exact⟨by rw[hfin.out];rfl,HB1.out⟩
  ·have hfin:=Hd (show zbk s=true by rw[hsc,h1];rfl)
   rw[h1]at HI;clear h hs hr hl hi hsc h1
   go_enter Tryz.func139,Tryz.ntmps139
   go_wp2_with (first|(go_at_call 92;(with_reducible refine HF.out.mono ?_);rintro e w1 ⟨rfl,hb1⟩;have HB1:=Hd hb1;clear hb1)|(go_at_call 152;(with_reducible refine(HI.out _).mono ?_);rintro e w2 ⟨rfl,hw2⟩;subst w2))
   go_ret;exact⟨by rw[hfin.out];rfl,HB1.out⟩
set_option maxHeartbeats 2000000
def partsT:Ty→List Ty
 | .ptr t=>[t]
 | .arr _ t=>[t]
 | .fn ps r=>ps++[r]
 | _=>[]
theorem zdc (t:Ty)(hr:zaD t):(partsT t).length≤(code t).length:=by
 cases t with
 | fn ps r=>
   have h:=zcy hr.1;rw[code,partsT];simp;omega
 | _=>simp[partsT,code]
theorem zdb {t p:Ty}(hp:p ∈ partsT t)(hr:zaD t):zaD p∧(code p).length<(code t).length:=by
 cases t with
 | base c=>cases hp
 | str s=>cases hp
 | ptr u=>
   obtain rfl:=List.mem_singleton.1 hp;exact⟨hr,by rw[code];simp⟩
 | arr n u=>
   obtain rfl:=List.mem_singleton.1 hp;exact⟨hr.2,by rw[code];simp;omega⟩
 | fn ps r=>
   rcases List.mem_append.1 hp with h|h
   ·refine⟨?_,?_⟩
    ·obtain⟨a,b,rfl⟩:=List.append_of_mem h
     exact zcC hr.1
    ·have:=zdj h
     rw[code];simp;omega
   ·obtain rfl:=List.mem_singleton.1 h
    exact⟨hr.2,by rw[code];simp;omega⟩
theorem zoL (t:Ty):zaS t=zbS (partsT t)+1:=by
 cases t with
 | base c=>rfl
 | str s=>rfl
 | ptr u=>simp[zaS,partsT,zbS]
 | arr n u=>simp[zaS,partsT,zbS]
 | fn ps r=>rw[zaS,partsT,zfS]
def zry (w:World)(base:Nat)(v:Value)(l:List Ty):Prop:=w.ownsRow base 40 1 v l.length (l.map fun p=>.string (tyB p))
def ztW (l:List Ty)(w:World)(e:Ending)(w':World):Prop:=(∃v,e=.returned v∧zry w' w.heap.size v l)∧Below w.heap.size w w'
theorem zdY {l l':List Ty}{w w':World}{v:Value}(hl:l=l')(h:zry w' w.heap.size v l')(hb:Below w.heap.size w w'):ztW l w (.returned v) w':=by subst hl;exact⟨⟨v,rfl,h⟩,hb⟩
theorem zpB (w:World)(B:Nat)(t:Ty)(hB:B≤w.heap.size):zry (w.alloc (.cells #[.string (tyB t)] 40)) B (.slice (some ⟨w.heap.size,0,none⟩) 1 1) [t]:=
 World.ownsRow_lit _ #[.string (tyB t)] 1 hB (by decide) rfl
theorem zcD (t:Ty)(hr:zaD t)(hl:(code t).length≤65536)(w:World):Calls Tryz.prog 138 #[.string (tyB t)] w (ztW (partsT t) w):=by
 have HK:=Hd (fun w=>za6 t w);cases t with
 | ptr u=>
   have HS:=Hd (fun w=>zj1 u w);have HK:=Hd (fun w=>zcj 112 (.ptr u) w rfl);generalize tyB (.ptr u)=s at *;clear hr hl
   go_enter Tryz.func138,Tryz.ntmps138
   go_wp2_with (first|(go_at_call 93;(with_reducible refine(HK.out _).mono ?_);rintro e w2 ⟨rfl,hw2⟩;subst w2)|(go_at_call 118;(with_reducible refine(HS.out _).mono ?_);rintro e w3 ⟨rfl,hb3⟩;have HB3:=Hd hb3;clear hb3))
   go_ret;exact zdY rfl (zpB _ _ u HB3.out.size) (HB3.out.alloc HB3.out.size _)
 | arr n u=>
   have HS:=Hd (fun w=>zcS n u hr hl w);have HK:=Hd (fun w=>zcj 97 (.arr n u) w rfl);generalize tyB (.arr n u)=s at *;clear hr hl
   go_enter Tryz.func138,Tryz.ntmps138
   go_wp2_with (first|(go_at_call 93;(with_reducible refine(HK.out _).mono ?_);rintro e w2 ⟨rfl,hw2⟩;subst w2)|(go_at_call 118;(with_reducible refine(HS.out _).mono ?_);rintro e w3 ⟨rfl,hb3⟩;have HB3:=Hd hb3;clear hb3))
   go_ret;exact zdY rfl (zpB _ _ u HB3.out.size) (HB3.out.alloc HB3.out.size _)
 | fn ps r=>
   have HS:=Hd (fun w=>zeL ps r w hr hl);have HK:=Hd (fun w=>zcj 102 (.fn ps r) w rfl)
   have hdl:=Hd (show ps.length+1≤70000 by
    have:=zdc _ hr;rw[partsT]at this
    simp at this;omega)
   obtain⟨i0,hi,hz0,hz1,hz2⟩:=info_parts zs6;have HI:=Hd (And.intro hi (And.intro hz0 (And.intro hz1 hz2)));generalize tyB (.fn ps r)=s at *;clear hr hl hi hz0 hz1 hz2
   go_enter Tryz.func138,Tryz.ntmps138
   go_wp2_with (first|(go_at_call 93;(with_reducible refine(HK.out _).mono ?_);rintro e w2 ⟨rfl,hw2⟩;subst w2)|(go_at_call 94;(with_reducible refine(HS.out _).mono ?_);rintro e w3 ⟨⟨v,rfl,ho⟩,hb3⟩;have HB3:=Hd hb3;have HO3:=Hd ho;clear hb3 ho)|(at_builtin;refine wpList_append_own _ rfl _ _ 140 rfl w.heap.size 40 i0 (.string ⟨#[]⟩) 1 16 Tryz.underlying140 HI.out.1 HI.out.2.1 HI.out.2.2.1 HI.out.2.2.2 rfl (by decide) _ _ _ rfl (HO3.out.alloc _) ⟨w3.heap.size,0,none⟩ 1 1 [.string (tyB r)] rfl rfl (fun j u h=>zjo _ _ _ j u h) (zrm _) (zuY hdl.out) (zuX hdl.out) (by have:=HB3.out.size;simp;omega) ?_))
   intro v' w6 hown hgrow _
   have HO6:=Hd (show zry w6 w.heap.size v' (ps++[r]) by
    unfold zry
    rw[List.length_append,List.map_append];exact hown)
   have HB6:=Hd ((HB3.out.alloc HB3.out.size _).grown hgrow (by have:=HB3.out.size;simp;omega) (fun q e=>(HO3.out.lt _ e).1));clear hown hgrow
   go_wp2_with fail
   go_ret;exact zdY rfl HO6.out HB6.out
 | base c=>
   have hne:headT (.base c)≠112∧headT (.base c)≠97∧headT (.base c)≠102:=by rcases zaM hr with rfl|rfl|rfl|rfl|rfl|rfl<;>decide
   have t1:(((headT (.base c)).toNat:Int) == 112)=false:=(zaQ hne.1 rfl).1;have t2:(((headT (.base c)).toNat:Int) == 97)=false:=(zaQ hne.2.1 rfl).1;have t3:(((headT (.base c)).toNat:Int) == 102)=false:=(zaQ hne.2.2 rfl).1;generalize tyB (.base c)=s at *;generalize headT (.base c)=h at *;clear hr hl hne
   go_enter Tryz.func138,Tryz.ntmps138
   go_wp2_with (go_at_call 93;(with_reducible refine(HK.out _).mono ?_);rintro e w2 ⟨rfl,hw2⟩;subst w2)
   go_ret;exact zdY rfl (World.ownsRow_nil _ _ _ _) (zv3 _ _)
 | str n=>
   have HK:=Hd (fun w=>zcj 83 (.str n) w rfl);generalize tyB (.str n)=s at *;clear hr hl
   go_enter Tryz.func138,Tryz.ntmps138
   go_wp2_with (go_at_call 93;(with_reducible refine(HK.out _).mono ?_);rintro e w2 ⟨rfl,hw2⟩;subst w2)
   go_ret;exact zdY rfl (World.ownsRow_nil _ _ _ _) (zv3 _ _)
theorem zoM {l:List Ty}{k:Nat}(hk:k<l.length):zbS (l.take (k+1))=max (zbS (l.take k)) (zaS l[k]):=by
 rw[List.take_succ_eq_append_getElem hk,zfS]
def DeepC (m:Nat):Prop:=∀t w,zaD t→(code t).length≤65536→Calls Tryz.prog 114 #[.string (tyB t),.int .i64 ((m:Int)-1)] w fun e w'=>e=.returned (.int .i64 (min (zaS t) (m+1):Nat))∧Below w.heap.size w w'
theorem zq5:∀m,m≤1000→DeepC m
 | 0,_=>fun t w _ _=>by
   have h1:min (zaS t) (0+1)=1:=by have:=zcK t;omega
   have HF:=Hd h1;clear h1
   go_enter Tryz.func114,Tryz.ntmps114
   go_wp2_with fail
   go_ret;exact⟨by rw[HF.out];rfl,zv3 _ _⟩
 | m+1,hm=>fun t w hr hl=>by
   have IH:=Hd (zq5 m (by omega));have hi:(((m+1:Nat):Int))-1=(m:Int):=by omega
   rw[hi];have HP:=Hd (zcD t hr hl w);have HD:=Hd (zoL t);have HM:=Hd (fun p hp=>zdb (t:=t) (p:=p) hp hr);have hpl:=zdc t hr;have HL:=Hd hl;generalize hps:partsT t=l at *;have hll:(l.length:Int)≤65536:=by omega
   generalize tyB t=s at *;clear hi hpl hps hr hl
   go_enter Tryz.func114,Tryz.ntmps114
   go_wp2_with (go_at_call 138;(with_reducible refine HP.out.mono ?_);rintro e w2 ⟨⟨v,rfl,ho⟩,hb2⟩;have HB2:=Hd hb2;obtain⟨a,cap,rfl,hc⟩:=zaI ho;have HC:=Hd hc;clear hb2 ho hc)
   go_loopg [6,7] l.length (fun g v6 v7 wy=>∃k:Nat,k≤l.length∧k+g=l.length∧v7=.int .i64 (k:Int)∧v6=.int .i64 (min (zbS (l.take k)) (m+1):Nat)∧Hid (Below w2.heap.size w2 wy))
   case atStart=>exact⟨0,Nat.zero_le _,by omega,rfl,by rw[List.take_zero,zbS,Nat.zero_min];rfl,zv3 _ _⟩
   case round=>
    obtain⟨k,hk,hkg,rfl,rfl,HB⟩:=hrel
    by_cases hlt:k<l.length
    ·obtain⟨g,rfl,_,hg2,hrow⟩:=HC.out (by omega)
     have e1:wr.cell? ⟨g,k,none⟩=some (.string (tyB l[k])):=by
      rw[HB.out.cell (p:=⟨g,k,none⟩) hg2];exact hrow k _ (by rw[List.getElem?_map,zv1 hlt];rfl)
     obtain⟨hpr,hpl⟩:=HM.out _ (zwb hlt);have HCl:=Hd (fun w=>IH.out l[k] w hpr (by have:=HL.out;omega));have HT:=Hd (zoM hlt);generalize l[k]'hlt=p at *;have HX:=Hd (show max (min (zbS (l.take k)) (m+1)) (min (zaS p) (m+1))=min (zbS (l.take (k+1))) (m+1) by rw[HT.out];omega);have hx1:((min (zbS (l.take k)) (m+1):Nat):Int)≤2000:=by omega
     generalize min (zbS (l.take k)) (m+1)=x at *;have hx2:((min (zaS p) (m+1):Nat):Int)≤2000:=by omega
     generalize min (zaS p) (m+1)=y at *;generalize tyB p=tp at *;clear hrow hpr hpl
     go_wp2_with (go_at_call 114;(with_reducible refine(HCl.out _).mono ?_);rintro e w3 ⟨rfl,hb3⟩;have HB3:=Ht HB hb3;clear hb3)
     all_goals
      go_roundg (l.length-(k+1))
      case measure=>omega
      case rel=>exact⟨k+1,by omega,by omega,by rw[zv9];rfl,by rw[← HX.out];congr 1;try omega,HB3⟩
    ·obtain rfl:k=l.length:=by omega
     have t3:(l.length:Int)≤(l.length:Int):=Int.le_refl _;have HF:=Hd (show min (zbS (l.take l.length)) (m+1)+1=min (zaS t) (m+1+1) by rw[HD.out,List.take_length];omega);have hx1:((min (zbS (l.take l.length)) (m+1):Nat):Int)≤2000:=by omega
     generalize min (zbS (l.take l.length)) (m+1)=x at *
     go_wp2_with fail
     go_ret;exact⟨by rw[← HF.out,zv9];rfl,HB2.out.trans (HB.out.mono HB2.out.size)⟩
theorem zqD {t:Ty}(h:zaD t):(((headT t).toNat:Int) == 118)=zbE t:=by
 cases t with
 | base c=>rcases zaM h with rfl|rfl|rfl|rfl|rfl|rfl<;>rfl
 | _=>rfl
theorem zdT (t:Ty)(hr:zaD t)(w:World):Calls Tryz.prog 87 #[.string (tyB t)] w fun e w'=>e=.returned (.bool (objectT t))∧w'=w:=by
 have HK:=Hd (fun w=>za6 t w);have h1:=zqD hr;have h2:=zqE hr;have hO:=show objectT t=(!zbE t && !isFnT t) from rfl
 generalize tyB t=s at *;generalize headT t=c at *;generalize objectT t=o at *;cases hv:zbE t with
 | true=>
   rw[hv]at h1 hO;have t1:((c.toNat:Int) != 118)=false:=by rw[bne,h1];rfl
   have HF:=Hd hO;clear h1 h2 hO hv
   go_enter Tryz.func87,Tryz.ntmps87
   go_wp2_with (go_at_call 93;(with_reducible refine(HK.out _).mono ?_);rintro e w2 ⟨rfl,hw2⟩;subst w2)
   go_ret;exact⟨by rw[HF.out];rfl,rfl⟩
 | false=>
   rw[hv]at h1 hO;have t1:((c.toNat:Int) != 118)=true:=by rw[bne,h1];rfl
   have t2:((c.toNat:Int) != 102)=!isFnT t:=by rw[bne,h2]
   have HF:=Hd hO;clear h1 h2 hO hv;generalize isFnT t=b at *
   go_enter Tryz.func87,Tryz.ntmps87
   go_wp2_with (go_at_call 93;(with_reducible refine(HK.out _).mono ?_);rintro e w2 ⟨rfl,hw2⟩;subst w2)
   go_ret;exact⟨by rw[HF.out];simp,rfl⟩
set_option maxHeartbeats 8000000
def zjw (t:Ty):Prop:=∀w,Calls Tryz.prog 115 #[.string (tyB t)] w fun e w'=>e=.returned (.bool (shapeT t))∧Below w.heap.size w w'
theorem zhC {l:List Ty}{p:Ty}(h:p ∈ l)(hs:shapeT p=false):l.all shapeT=false:=by
 rw[List.all_eq_false];exact⟨p,h,by simp[hs]⟩
theorem ztH {l:List Ty}{p:Ty}(h:p ∈ l)(hs:zap p=false):l.all zap=false:=by
 rw[List.all_eq_false];exact⟨p,h,by simp[hs]⟩
theorem zln (l:List Ty):zbL l=(l.all zap && l.all shapeT):=by
 induction l with
 | nil=>rfl
 | cons t l ih=>rw[zbL,ih,List.all_cons,List.all_cons];cases zap t<;>cases shapeT t<;>simp
theorem zh1 {w:World}{a:Option Addr}{ps:List Ty}{B:Nat}(hc:0<ps.length→∃g,a=some ⟨g,0,none⟩∧B≤g∧g<w.heap.size∧∀(j:Nat) u,(ps.map fun p=>Value.string (tyB p))[j]?=some u→w.cell? ⟨g,j,none⟩=some u) :
 ∀w',Below w.heap.size w w'→0<ps.length→∃g,a=some ⟨g,0,none⟩∧g<w'.heap.size∧∀(j:Nat) (hj:j<ps.length),w'.cell? ⟨g,j,none⟩=some (.string (tyB ps[j])):=fun w' hb hn=>by
 obtain⟨g,e,_,hg,hr⟩:=hc hn;refine⟨g,e,zv5 hg hb.size,fun j hj=>?_⟩;rw[hb.cell (p:=⟨g,j,none⟩) hg];exact hr j _ (by rw[List.getElem?_map,zv1 hj];rfl)
theorem zh3 (t:Ty)(w:World)(hr:zaD t)(hl:(code t).length≤65536):Calls Tryz.prog 139 #[.string (tyB t)] w fun e w'=>e=.returned (.bool (zap t))∧Below w.heap.size w w':=by
 have:=zhI (tyB t) w;rw[show zbk (tyB t)=zap t by unfold zbk;rw[zaW.2 ⟨rfl,hr,hl⟩];rfl]at this;exact this
theorem zfA (t:Ty)(hr:zaD t)(hl:(code t).length≤65536)(h1:headT t≠97)(h2:headT t≠102)(he:shapeT t=(partsT t).all shapeT)(ih:∀p ∈ partsT t,zjw p):zjw t:=by
 intro w;have HK:=Hd (fun w=>za6 t w);have t1:(((headT t).toNat:Int) == 97)=false:=(zaQ h1 rfl).1;have t2:(((headT t).toNat:Int) == 102)=false:=(zaQ h2 rfl).1;have HPt:=Hd (fun w=>zcD t hr hl w);have hpl:=zdc t hr;have HEq:=Hd he;have HM:=Hd ih;generalize partsT t=l at *;have hll:(l.length:Int)≤65536:=by omega
 generalize headT t=c at *;generalize hs:tyB t=s at *;clear hs h1 h2 he ih hr hl hpl
 go_enter Tryz.func115,Tryz.ntmps115
 go_upto_region 14 with ((go_at_call 93;(with_reducible refine(HK.out _).mono ?_);rintro e w1 ⟨rfl,hw1⟩;subst w1))
 have HPc:=Hd (HPt.out w)
 go_wp2_with (go_at_call 138;(with_reducible refine HPc.out.mono ?_);rintro e w2 ⟨⟨v,rfl,ho⟩,hb2⟩;have HB2:=Hd (hb2);obtain⟨a,cap,rfl,hc⟩:=zaI ho;have HC:=Hd hc;clear hb2 ho hc)
 go_loopg [9] l.length (fun g v9 wy=>∃k:Nat,k≤l.length∧k+g=l.length∧v9=.int .i64 (k:Int)∧Hid ((l.take k).all shapeT=true)∧Hid (Below w2.heap.size w2 wy))
 case atStart=>exact⟨0,Nat.zero_le _,by omega,rfl,rfl,zv3 _ _⟩
 case round=>
  obtain⟨k,hk,hkg,rfl,hall,HB⟩:=hrel
  by_cases hlt:k<l.length
  ·obtain⟨g,rfl,_,hg2,hrow⟩:=HC.out (by omega)
   have e1:wr.cell? ⟨g,k,none⟩=some (.string (tyB l[k])):=by
    rw[HB.out.cell (p:=⟨g,k,none⟩) hg2];exact hrow k _ (by rw[List.getElem?_map,zv1 hlt];rfl)
   have HCl:=Hd (fun w=>HM.out _ (zwb hlt) w);have htk:l.take (k+1)=l.take k++[l[k]]:=by rw[List.take_add_one,zv1 hlt];rfl
   rcases hsh:shapeT l[k] with _|_
   ·have hfin:=Hd (show shapeT t=false by rw[HEq.out];exact zhC (zwb hlt) hsh)
    rw[hsh]at HCl;clear hrow hsh htk;generalize tyB (l[k]'hlt)=tp at *
    go_wp2_with (go_at_call 115;(with_reducible refine(HCl.out _).mono ?_);rintro e w3 ⟨rfl,hb3⟩;have HB3:=Ht HB hb3;clear hb3)
    go_ret;exact⟨by rw[hfin.out];rfl,HB2.out.trans (HB3.out.mono HB2.out.size)⟩
   ·have hal2:=Hd (show (l.take (k+1)).all shapeT=true by rw[htk,List.all_append,hall.out];simp[hsh])
    rw[hsh]at HCl;clear hrow hsh htk;generalize tyB (l[k]'hlt)=tp at *
    go_wp2_with (go_at_call 115;(with_reducible refine(HCl.out _).mono ?_);rintro e w3 ⟨rfl,hb3⟩;have HB3:=Ht HB hb3;clear hb3)
    go_roundg (l.length-(k+1))
    case measure=>omega
    case rel=>exact⟨k+1,by omega,by omega,by rw[zv9];rfl,hal2,HB3⟩
  ·obtain rfl:k=l.length:=by omega
   have t9:(l.length:Int)≤(l.length:Int):=Int.le_refl _;have hfin:=Hd (show shapeT t=true by rw[HEq.out];have:=hall.out;rwa [List.take_length]at this)
   go_wp2_with fail
   go_ret;exact⟨by rw[hfin.out];rfl,HB2.out.trans (HB.out.mono HB2.out.size)⟩
theorem zsa (n:Nat)(u:Ty)(hr:zaD (.arr n u))(hl:(code (.arr n u)).length≤65536)(ih:zjw u):zjw (.arr n u):=by
 intro w;have HK:=Hd (fun w=>zcj 97 (.arr n u) w rfl);have HIn:=Hd (fun w=>zcS n u hr hl w);have HOb:=Hd (fun w=>zdT u hr.2 w);have hnb:(n:Int)≤1099511627776:=by have:=hr.1;omega
 have HPt:=Hd (fun w=>zcD (.arr n u) hr hl w);have hpl:=zdc (.arr n u) hr;have HM:=Hd (show ∀p ∈ partsT (.arr n u),zjw p from fun p hp=>by obtain rfl:=List.mem_singleton.1 hp;exact ih);have hsh:shapeT (.arr n u)=(decide (1≤n∧n≤65536) && (objectT u && shapeT u)):=by rw[shapeT]
 have hpt:(partsT (.arr n u)).all shapeT=shapeT u:=by simp[partsT]
 have hll:((partsT (.arr n u)).length:Int)≤65536:=by omega
 clear hr hl hpl;generalize Ty.arr n u=t at *;generalize partsT t=l at *
 by_cases hok:objectT u=true∧1≤n∧n≤65536
 ·obtain⟨ho,hn1,hn2⟩:=hok
  have HEq:=Hd (show shapeT t=l.all shapeT by rw[hsh,hpt,ho,decide_eq_true ⟨hn1,hn2⟩];rfl);have t3:(1:Int)≤n:=by omega
  have t4:(n:Int)≤65536:=by omega
  rw[ho]at HOb;generalize tyB t=s at *;clear hsh hpt ho ih
  go_enter Tryz.func115,Tryz.ntmps115
  go_upto_region 14 with (first|(go_at_call 93;(with_reducible refine(HK.out _).mono ?_);rintro e w1 ⟨rfl,hw1⟩;subst w1)|(go_at_call 118;(with_reducible refine(HIn.out _).mono ?_);rintro e w3 ⟨rfl,hb3⟩;have HB3:=Hd hb3;clear hb3)|(go_at_call 87;(with_reducible refine(HOb.out _).mono ?_);rintro e w1 ⟨rfl,hw1⟩;subst w1))
  have HPc:=Hd (HPt.out w3)
  go_wp2_with (go_at_call 138;(with_reducible refine HPc.out.mono ?_);rintro e w2 ⟨⟨v,rfl,ho⟩,hb2⟩;have HB2:=Ht HB3 hb2;obtain⟨a,cap,rfl,hc⟩:=zaI ho;have HC:=Hd hc;clear hb2 ho hc)
  go_loopg [9] l.length (fun g v9 wy=>∃k:Nat,k≤l.length∧k+g=l.length∧v9=.int .i64 (k:Int)∧Hid ((l.take k).all shapeT=true)∧Hid (Below w2.heap.size w2 wy))
  case atStart=>exact⟨0,Nat.zero_le _,by omega,rfl,rfl,zv3 _ _⟩
  case round=>
   obtain⟨k,hk,hkg,rfl,hall,HB⟩:=hrel
   by_cases hlt:k<l.length
   ·obtain⟨g,rfl,_,hg2,hrow⟩:=HC.out (by omega)
    have e1:wr.cell? ⟨g,k,none⟩=some (.string (tyB l[k])):=by
     rw[HB.out.cell (p:=⟨g,k,none⟩) hg2];exact hrow k _ (by rw[List.getElem?_map,zv1 hlt];rfl)
    have HCl:=Hd (fun w=>HM.out _ (zwb hlt) w);have htk:l.take (k+1)=l.take k++[l[k]]:=by rw[List.take_add_one,zv1 hlt];rfl
    rcases hsh:shapeT l[k] with _|_
    ·have hfin:=Hd (show shapeT t=false by rw[HEq.out];exact zhC (zwb hlt) hsh)
     rw[hsh]at HCl;clear hrow hsh htk;generalize tyB (l[k]'hlt)=tp at *
     go_wp2_with (go_at_call 115;(with_reducible refine(HCl.out _).mono ?_);rintro e w3 ⟨rfl,hb3⟩;have HB3:=Ht HB hb3;clear hb3)
     go_ret;exact⟨by rw[hfin.out];rfl,HB2.out.trans (HB3.out.mono HB2.out.size)⟩
    ·have hal2:=Hd (show (l.take (k+1)).all shapeT=true by rw[htk,List.all_append,hall.out];simp[hsh])
     rw[hsh]at HCl;clear hrow hsh htk;generalize tyB (l[k]'hlt)=tp at *
     go_wp2_with (go_at_call 115;(with_reducible refine(HCl.out _).mono ?_);rintro e w3 ⟨rfl,hb3⟩;have HB3:=Ht HB hb3;clear hb3)
     go_roundg (l.length-(k+1))
     case measure=>omega
     case rel=>exact⟨k+1,by omega,by omega,by rw[zv9];rfl,hal2,HB3⟩
   ·obtain rfl:k=l.length:=by omega
    have t9:(l.length:Int)≤(l.length:Int):=Int.le_refl _;have hfin:=Hd (show shapeT t=true by rw[HEq.out];have:=hall.out;rwa [List.take_length]at this)
    go_wp2_with fail
    go_ret;exact⟨by rw[hfin.out];rfl,HB2.out.trans (HB.out.mono HB2.out.size)⟩
 ·have hfin:=Hd (show shapeT t=false by
   rw[hsh];rcases ho:objectT u with _|_
   ·simp
   ·rw[decide_eq_false (fun h=>hok ⟨ho,h⟩)];rfl)
  have hT:objectT u=false∨(objectT u=true∧(n:Int)<1)∨(objectT u=true∧(1:Int)≤n∧(65536:Int)<n):=by
   rcases ho:objectT u with _|_
   ·exact .inl rfl
   ·refine .inr ?_
    by_cases h1:n<1
    ·exact .inl ⟨rfl,by omega⟩
    ·refine .inr ⟨rfl,by omega,?_⟩
     have:¬n≤65536:=fun h=>hok ⟨ho,by omega,h⟩
     omega
  generalize tyB t=s at *;clear hsh hpt hok ih;rcases hT with ho|⟨ho,t3⟩|⟨ho,t3,t4⟩
  all_goals
   rw[ho]at HOb;clear ho
   go_enter Tryz.func115,Tryz.ntmps115
   go_wp2_with (first|(go_at_call 93;(with_reducible refine(HK.out _).mono ?_);rintro e w1 ⟨rfl,hw1⟩;subst w1)|(go_at_call 118;(with_reducible refine(HIn.out _).mono ?_);rintro e w3 ⟨rfl,hb3⟩;have HB3:=Hd hb3;clear hb3)|(go_at_call 87;(with_reducible refine(HOb.out _).mono ?_);rintro e w1 ⟨rfl,hw1⟩;subst w1))
   go_ret;exact⟨by rw[hfin.out];rfl,HB3.out⟩
theorem tyB_v (t:Ty)(hr:zaD t):((tyB t).toList == [118])=zbE t:=by
 rw[zib hr 118];cases t<;>rfl
theorem zub (ps:List Ty)(r:Ty)(hr:zaD (.fn ps r))(hl:(code (.fn ps r)).length≤65536)(ih:∀p ∈ partsT (.fn ps r),zjw p):zjw (.fn ps r):=by
 intro w;have HK:=Hd (fun w=>zcj 102 (.fn ps r) w rfl);have HSg:=Hd (fun w=>zeL ps r w hr hl);have HPt:=Hd (fun w=>zcD (.fn ps r) hr hl w);have hpl:=zdc (.fn ps r) hr;have hpb:(ps.length:Int)≤65536:=by
  rw[partsT]at hpl;simp at hpl;omega
 have HM:=Hd ih;have hsh:shapeT (.fn ps r)=(decide (ps.length≤8) && ((zbE r || zap r) && (shapeT r && zbL ps))):=by rw[shapeT]
 have hrl:zaD r∧(code r).length<(code (.fn ps r)).length:=zdb (t:=.fn ps r) (by simp[partsT]) hr;have hv:=tyB_v r hrl.1;have hv':((tyB r).toList != [118])=!zbE r:=by rw[bne,hv]
 have HSc:=Hd (fun w=>zh3 r w hrl.1 (by omega))
 have HPs:=Hd (fun (k:Nat) (hk:k<ps.length) w=>zh3 ps[k] w (zdb (t:=.fn ps r) (p:=ps[k]) (by simp[partsT]) hr).1 (by
  have:=(zdb (t:=.fn ps r) (p:=ps[k]) (by simp[partsT]) hr).2
  omega))
 have hpt:(partsT (.fn ps r)).all shapeT=(ps.all shapeT && shapeT r):=by simp[partsT]
 have hll:((partsT (.fn ps r)).length:Int)≤65536:=by omega
 clear ih hr hl hpl;generalize Ty.fn ps r=t at *;generalize partsT t=l at *;generalize tyB t=s at *
 by_cases h8:ps.length≤8
 ·rw[decide_eq_true h8,Bool.true_and]at hsh
  have t3:(ps.length:Int)≤8:=by omega
  rcases hvs:(zbE r || zap r) with _|_
  ·have hfin:=Hd (show shapeT t=false by rw[hsh,hvs];rfl)
   rw[Bool.or_eq_false_iff]at hvs;have hv2:((tyB r).toList != [118])=true:=by rw[hv',hvs.1];rfl
   rw[hvs.1]at hv;clear hv';rw[hvs.2]at HSc;clear hsh hpt h8 hrl hvs
   go_enter Tryz.func115,Tryz.ntmps115
   go_wp2_with (first|(go_at_call 93;(with_reducible refine(HK.out _).mono ?_);rintro e w1 ⟨rfl,hw1⟩;subst w1)|(go_at_call 94;(with_reducible refine(HSg.out _).mono ?_);rintro e w3 ⟨⟨v,rfl,ho⟩,hb3⟩;have HB3:=Hd hb3;obtain⟨a1,cap1,rfl,hc1⟩:=zaI ho;clear hb3 ho hc1)|(go_at_call 139;(with_reducible refine(HSc.out _).mono ?_);rintro e w4 ⟨rfl,hb4⟩;have HB4:=Ht HB3 hb4;clear hb4))
   go_ret;exact⟨by rw[hfin.out];rfl,HB4.out⟩
  ·rw[hvs,Bool.true_and]at hsh
   have hT:(zbE r=true)∨(zbE r=false∧zap r=true):=by
    rcases h:zbE r with _|_
    ·rw[h]at hvs;exact .inr ⟨rfl,by simpa using hvs⟩
    ·exact .inl rfl
   have HShs:=Hd hsh;have HAl:=Hd hpt;have HShl:=Hd (zln ps);clear hsh hpt h8 hrl hvs;rcases hT with h|⟨h,h'⟩
   case' inl=>
    have hv2:((tyB r).toList != [118])=false:=by rw[hv',h];rfl
    rw[h]at hv;clear h hv'
    go_enter Tryz.func115,Tryz.ntmps115
    go_upto_region 9 with (first|(go_at_call 93;(with_reducible refine(HK.out _).mono ?_);rintro e w1 ⟨rfl,hw1⟩;subst w1)|(go_at_call 94;(with_reducible refine(HSg.out _).mono ?_);rintro e w3 ⟨⟨v,rfl,ho⟩,hb3⟩;have HB4:=Hd hb3;obtain⟨a1,cap1,rfl,hc1⟩:=zaI ho;have HC1:=Hd (show ∀w',Below w3.heap.size w3 w'→0<ps.length→∃g,a1=some ⟨g,0,none⟩∧g<w'.heap.size∧∀(j:Nat) (hj:j<ps.length),w'.cell? ⟨g,j,none⟩=some (.string (tyB ps[j])) from zh1 hc1);clear hb3 ho hc1))
    obtain⟨w4,hw4⟩:∃w4,w4=w3:=⟨_,rfl⟩
    have HB34:=Hd (show Below w3.heap.size w3 w4 by rw[hw4];exact zv3 _ _);rw[← hw4]at HB4 ⊢;clear hw4
   case' inr=>
    have hv2:((tyB r).toList != [118])=true:=by rw[hv',h];rfl
    rw[h]at hv;rw[h']at HSc;clear h h' hv'
    go_enter Tryz.func115,Tryz.ntmps115
    go_upto_region 9 with (first|(go_at_call 93;(with_reducible refine(HK.out _).mono ?_);rintro e w1 ⟨rfl,hw1⟩;subst w1)|(go_at_call 94;(with_reducible refine(HSg.out _).mono ?_);rintro e w3 ⟨⟨v,rfl,ho⟩,hb3⟩;have HB3:=Hd hb3;obtain⟨a1,cap1,rfl,hc1⟩:=zaI ho;have HC1:=Hd (show ∀w',Below w3.heap.size w3 w'→0<ps.length→∃g,a1=some ⟨g,0,none⟩∧g<w'.heap.size∧∀(j:Nat) (hj:j<ps.length),w'.cell? ⟨g,j,none⟩=some (.string (tyB ps[j])) from zh1 hc1);clear hb3 ho hc1)|(go_at_call 139;(with_reducible refine(HSc.out _).mono ?_);rintro e w4 ⟨rfl,hb4⟩;have HB34:=Hd hb4;have HB4:=Ht HB3 hb4;clear hb4))
   all_goals
    go_wp2_with fail
    go_loopg [7] ps.length (fun g v7 wy=>∃k:Nat,k≤ps.length∧k+g=ps.length∧v7=.int .i64 (k:Int)∧Hid ((ps.take k).all zap=true)∧Hid (Below w4.heap.size w4 wy))
    case atStart=>exact⟨0,Nat.zero_le _,by omega,rfl,rfl,zv3 _ _⟩
    case round=>
     obtain⟨k,hk,hkg,rfl,hall,HB⟩:=hrel
     by_cases hlt:k<ps.length
     ·obtain⟨g,rfl,hg2,hrow⟩:=HC1.out wr (HB34.out.trans (HB.out.mono HB34.out.size)) (by omega)
      have e1:=hrow k hlt;have HCl:=Hd (fun w=>HPs.out k hlt w);have htk:ps.take (k+1)=ps.take k++[ps[k]]:=by rw[List.take_add_one,zv1 hlt];rfl
      rcases hsc:zap ps[k] with _|_
      ·have hfin:=Hd (show shapeT t=false by rw[HShs.out,HShl.out,ztH (zwb hlt) hsc];simp)
       rw[hsc]at HCl;clear hrow hsc htk;generalize tyB (ps[k]'hlt)=tp at *
       go_wp2_with (go_at_call 139;(with_reducible refine(HCl.out _).mono ?_);rintro e w5 ⟨rfl,hb5⟩;have HB5:=Ht HB hb5;clear hb5)
       go_ret;exact⟨by rw[hfin.out];rfl,HB4.out.trans (HB5.out.mono HB4.out.size)⟩
      ·have hal2:=Hd (show (ps.take (k+1)).all zap=true by rw[htk,List.all_append,hall.out];simp[hsc])
       rw[hsc]at HCl;clear hrow hsc htk;generalize tyB (ps[k]'hlt)=tp at *
       go_wp2_with (go_at_call 139;(with_reducible refine(HCl.out _).mono ?_);rintro e w5 ⟨rfl,hb5⟩;have HB5:=Ht HB hb5;clear hb5)
       go_roundg (ps.length-(k+1))
       case measure=>omega
       case rel=>exact⟨k+1,by omega,by omega,by rw[zv9];rfl,hal2,HB5⟩
     ·obtain rfl:k=ps.length:=by omega
      have t8:(ps.length:Int)≤(ps.length:Int):=Int.le_refl _
      have HEq:=Hd (show shapeT t=l.all shapeT by
       have h1:=hall.out;rw[List.take_length]at h1
       rw[HShs.out,HShl.out,HAl.out,h1,Bool.true_and,Bool.and_comm])
      have HBr:=Hd (HB4.out.trans (HB.out.mono HB4.out.size))
      go_upto_region 14 with fail
      have HPc:=Hd (HPt.out wr)
      go_wp2_with (go_at_call 138;(with_reducible refine HPc.out.mono ?_);rintro e w2 ⟨⟨v,rfl,ho⟩,hb2⟩;have HB2:=Ht HBr hb2;obtain⟨a,cap,rfl,hc⟩:=zaI ho;have HC:=Hd hc;clear hb2 ho hc)
      go_loopg [9] l.length (fun g v9 wy=>∃k:Nat,k≤l.length∧k+g=l.length∧v9=.int .i64 (k:Int)∧Hid ((l.take k).all shapeT=true)∧Hid (Below w2.heap.size w2 wy))
      case atStart=>exact⟨0,Nat.zero_le _,by omega,rfl,rfl,zv3 _ _⟩
      case round=>
       obtain⟨k,hk,hkg,rfl,hall,HB⟩:=hrel
       by_cases hlt:k<l.length
       ·obtain⟨g,rfl,_,hg2,hrow⟩:=HC.out (by omega)
        have e1:wr.cell? ⟨g,k,none⟩=some (.string (tyB l[k])):=by
         rw[HB.out.cell (p:=⟨g,k,none⟩) hg2];exact hrow k _ (by rw[List.getElem?_map,zv1 hlt];rfl)
        have HCl:=Hd (fun w=>HM.out _ (zwb hlt) w);have htk:l.take (k+1)=l.take k++[l[k]]:=by rw[List.take_add_one,zv1 hlt];rfl
        rcases hsh:shapeT l[k] with _|_
        ·have hfin:=Hd (show shapeT t=false by rw[HEq.out];exact zhC (zwb hlt) hsh)
         rw[hsh]at HCl;clear hrow hsh htk;generalize tyB (l[k]'hlt)=tp at *
         go_wp2_with (go_at_call 115;(with_reducible refine(HCl.out _).mono ?_);rintro e w3 ⟨rfl,hb3⟩;have HB3:=Ht HB hb3;clear hb3)
         go_ret;exact⟨by rw[hfin.out];rfl,HB2.out.trans (HB3.out.mono HB2.out.size)⟩
        ·have hal2:=Hd (show (l.take (k+1)).all shapeT=true by rw[htk,List.all_append,hall.out];simp[hsh])
         rw[hsh]at HCl;clear hrow hsh htk;generalize tyB (l[k]'hlt)=tp at *
         go_wp2_with (go_at_call 115;(with_reducible refine(HCl.out _).mono ?_);rintro e w3 ⟨rfl,hb3⟩;have HB3:=Ht HB hb3;clear hb3)
         go_roundg (l.length-(k+1))
         case measure=>omega
         case rel=>exact⟨k+1,by omega,by omega,by rw[zv9];rfl,hal2,HB3⟩
       ·obtain rfl:k=l.length:=by omega
        have t9:(l.length:Int)≤(l.length:Int):=Int.le_refl _;have hfin:=Hd (show shapeT t=true by rw[HEq.out];have:=hall.out;rwa [List.take_length]at this)
        go_wp2_with fail
        go_ret;exact⟨by rw[hfin.out];rfl,HB2.out.trans (HB.out.mono HB2.out.size)⟩
 ·have hfin:=Hd (show shapeT t=false by rw[hsh,decide_eq_false h8];rfl)
  have t3:(8:Int)<ps.length:=by omega
  clear hsh hpt h8 hrl hv hv'
  go_enter Tryz.func115,Tryz.ntmps115
  go_wp2_with (first|(go_at_call 93;(with_reducible refine(HK.out _).mono ?_);rintro e w1 ⟨rfl,hw1⟩;subst w1)|(go_at_call 94;(with_reducible refine(HSg.out _).mono ?_);rintro e w3 ⟨⟨v,rfl,ho⟩,hb3⟩;have HB3:=Hd hb3;obtain⟨a1,cap1,rfl,hc1⟩:=zaI ho;clear hb3 ho hc1))
  go_ret;exact⟨by rw[hfin.out];rfl,HB3.out⟩
theorem zgS:∀(n:Nat) (t:Ty),(code t).length≤n→zaD t→(code t).length≤65536→zjw t
 | 0,t,hn,hr,_=>by have:=zb7 hr;omega
 | n+1,t,hn,hr,hl=>by
   have ih:∀p ∈ partsT t,zjw p:=fun p hp=>by
    obtain⟨h1,h2⟩:=zdb hp hr;exact zgS n p (by omega) h1 (by omega)
   cases t with
   | base c=>exact zfA _ hr hl (by rcases zaM hr with rfl|rfl|rfl|rfl|rfl|rfl<;>decide) (by rcases zaM hr with rfl|rfl|rfl|rfl|rfl|rfl<;>decide) rfl ih
   | str s=>exact zfA _ hr hl (by simp[headT]) (by simp[headT]) rfl ih
   | ptr u=>exact zfA _ hr hl (by simp[headT]) (by simp[headT]) (by simp[shapeT,partsT]) ih
   | arr m u=>exact zsa m u hr hl (ih u (by simp[partsT]))
   | fn ps r=>exact zub ps r hr hl ih
set_option maxHeartbeats 2000000
theorem IsSrs.mono {B B':Nat}{w:World}{a:Option Addr}{L:List Sr}{mv:List Value}(h:IsSrs B w a L mv)(hB:B≤B'):IsSrs B' w a L mv:=
 ⟨h.len,fun hn=>(by
   obtain⟨b,off,e,hlt,hr⟩:=h.at_ hn
   exact⟨b,off,e,zv5 hlt hB,fun i x v hi hv=>(by obtain⟨h1,h2,h3⟩:=hr i x v hi hv;exact⟨h1,h2,h3.mono hB⟩)⟩),h.names⟩
theorem zsL (x:ByteArray)(n:List UInt8):(x.toList == (strB n).toList)=decide (x.data.toList=n):=by
 rw[zbD,Bool.eq_iff_iff,decide_eq_true_iff,decide_eq_true_iff];exact⟨fun h=>by rw[h,zgI],fun h=>zlj h⟩
theorem zgT (n:List UInt8)(a:Option Addr)(cap:Nat)(L:List Sr)(mv:List Value)(w:World)(hS:IsSrs w.heap.size w a L mv)(hl:(code (.str n)).length≤65536)(hL:(L.length:Int)≤1000) :
 Calls Tryz.prog 119 #[.string (tyB (.str n)),.slice a L.length cap] w fun e w'=>e=.returned (.int .i64 (placeS L n))∧Below w.heap.size w w':=by
 have hx:(tyB (.str n)).extract 1 ((tyB (.str n)).size-1)=strB n:=zlj (by
  have:(tyB (.str n)).size-1=1+n.length:=by rw[zba,code];simp;omega
  rw[this,za8,zeC,code]
  simp)
 have hs2:2≤(tyB (.str n)).size:=by rw[zba,code];simp
 have hs3:(tyB (.str n)).size≤65536:=by rw[zba];exact hl
 have HS:=Hd hS;generalize tyB (.str n)=s at *;have HX:=Hd hx;have e1:IntKind.i64.wrap ((s.size:Int)-1)=(s.size:Int)-1:=IntWalk.i64_in _ (by omega);have e2:((s.size:Int)-1).toNat=s.size-1:=by omega
 have e3:(1:Int)≤(s.size:Int)-1:=by omega
 have e4:(s.size:Int)-1≤s.size:=by omega
 clear hS hx hl hs3
 go_enter Tryz.func119,Tryz.ntmps119
 go_wp2_with fail
 go_loopg [5] L.length (fun g v5 wy=>∃k:Nat,k≤L.length∧k+g=L.length∧v5=.int .i64 (k:Int)∧Hid (∀j (hj:j<L.length),j<k→L[j].name.data.toList≠n)∧Hid (Below w.heap.size w wy))
 case atStart=>exact⟨0,by omega,by omega,rfl,fun j _ h=>by omega,zv3 _ _⟩
 case round=>
  obtain⟨k,hk,hkg,rfl,hno,HB⟩:=hrel
  by_cases hlt:k<L.length
  ·obtain⟨bb,off,ha,hbl,hrow⟩:=HS.out.at_ (fun e=>by rw[e]at hlt;simp at hlt)
   subst ha;have hlm:k<mv.length:=by rw[HS.out.len];exact hlt
   have c1:=(hrow k _ _ (zv1 hlt) (zv1 hlm)).1;rw[← HB.out.cell hbl]at c1;have hcmp:=zsL L[k].name n;rw[← HX.out]at hcmp
   by_cases h:L[k].name.data.toList=n
   ·have hfin:=Hd (show placeS L n=(k:Int) by
     have:zhn L n=some k:=by
      unfold zhn;rw[List.findIdx?_eq_some_iff_getElem];exact⟨hlt,by simpa using h,fun j hj=>by simpa using hno.out j (by omega) hj⟩
     unfold placeS;rw[this])
    rw[decide_eq_true h]at hcmp;clear h hrow hno hlm;generalize (L[k]'hlt).name=nm at *
    go_wp2_with fail
    go_quiet (fail)
    go_wp2_with fail
    go_ret;exact⟨by rw[hfin.out];rfl,zaf HB.out _⟩
   ·have HN:=Hd (show ∀j (hj:j<L.length),j<k+1→L[j].name.data.toList≠n from fun j hj hjk=>by
     rcases Nat.lt_or_ge j k with h'|h'
     ·exact hno.out j hj h'
     ·obtain rfl:j=k:=by omega
      exact h)
    rw[decide_eq_false h]at hcmp;clear h hrow hno hlm;generalize (L[k]'hlt).name=nm at *
    go_wp2_with fail
    go_quiet (fail)
    go_wp2_with fail
    go_roundg (L.length-(k+1))
    case measure=>omega
    case rel=>exact⟨k+1,by omega,by omega,by rw[zv9];rfl,HN.out,zaf HB.out _⟩
  ·obtain rfl:k=L.length:=by omega
   have hfin:=Hd (show placeS L n=-1 by
    have:zhn L n=none:=by
     unfold zhn;rw[List.findIdx?_eq_none_iff];intro x hx;obtain⟨j,hj,rfl⟩:=List.getElem_of_mem hx;simpa using hno.out j hj hj
    unfold placeS;rw[this])
   have t3:(L.length:Int)≤(L.length:Int):=Int.le_refl _;clear hno
   go_wp2_with fail
   go_ret;exact⟨by rw[hfin.out];rfl,HB.out⟩
theorem zlC {L:List Sr}{n:List UInt8}:decide (0≤placeS L n)=(zhn L n).isSome:=by
 unfold placeS;cases zhn L n<;>simp
def thereS (L:List Sr):Ty→Bool
 | .arr _ t=>thereS L t
 | .str s=>(zhn L s).isSome
 | _=>true
theorem zfx (K:List Kn):∀t:Ty,thereS (K.map Kn.toSr) t=thereT K t
 | .arr _ t=>by rw[thereS,thereT,zfx K t]
 | .str s=>by rw[thereS,thereT,zhm]
 | .base _=>by simp[thereS,thereT]
 | .ptr _=>by simp[thereS,thereT]
 | .fn _ _=>by simp[thereS,thereT]
theorem zeM (a:Option Addr)(cap:Nat)(L:List Sr)(mv:List Value)(hL:(L.length:Int)≤1000):∀(t:Ty) (w:World),IsSrs w.heap.size w a L mv→zaD t→(code t).length≤65536 →
 Calls Tryz.prog 116 #[.string (tyB t),.slice a L.length cap] w fun e w'=>e=.returned (.bool (thereS L t))∧Below w.heap.size w w'
 | .arr n u,w,hS,hr,hl=>by
   have HS:=Hd hS;have HK:=Hd (fun w=>zcj 97 (.arr n u) w rfl);have HIn:=Hd (fun w=>zcS n u hr hl w);have ih:=zeM a cap L mv hL u;have HI:=Hd (fun w (hS:IsSrs w.heap.size w a L mv)=>ih w hS hr.2 (by rw[code]at hl;simp at hl;omega));rw[show thereS L (.arr n u)=thereS L u by rw[thereS]];generalize tyB (.arr n u)=s at *;generalize thereS L u=r at *;clear hr hl ih hS
   go_enter Tryz.func116,Tryz.ntmps116
   go_wp2_with (first|(go_at_call 93;(with_reducible refine(HK.out _).mono ?_);rintro e w1 ⟨rfl,hw1⟩;subst w1)|(go_at_call 118;(with_reducible refine(HIn.out _).mono ?_);rintro e w3 ⟨rfl,hb3⟩;have HB3:=Hd hb3;have HG:=Hd (HI.out w3 ((HS.out.below hb3).mono hb3.size));clear hb3)|(go_at_call 116;(with_reducible refine HG.out.mono ?_);rintro e w4 ⟨rfl,hb4⟩;have HB4:=Ht HB3 hb4;clear hb4))
   go_ret;exact⟨rfl,HB4.out⟩
 | .str n,w,hS,_,hl=>by
   have HN:=Hd (fun w (hS:IsSrs w.heap.size w a L mv)=>zgT n a cap L mv w hS hl hL);have HS:=Hd hS;have HK:=Hd (fun w=>zcj 83 (.str n) w rfl);rw[show thereS L (.str n)=decide (0≤placeS L n) by rw[thereS,zlC]];have HN1:=Hd (HN.out w HS.out);generalize tyB (.str n)=s at *;generalize placeS L n=i at *;clear hl hS
   go_enter Tryz.func116,Tryz.ntmps116
   go_wp2_with (first|(go_at_call 93;(with_reducible refine(HK.out _).mono ?_);rintro e w1 ⟨rfl,hw1⟩;subst w1)|(go_at_call 119;(with_reducible refine HN1.out.mono ?_);rintro e w3 ⟨rfl,hb3⟩;have HB3:=Hd hb3;clear hb3))
   go_ret;exact⟨rfl,HB3.out⟩
 | .base c,w,_,hr,_=>by
   have HK:=Hd (fun w=>za6 (.base c) w);have hne:headT (.base c)≠83∧headT (.base c)≠97:=by rcases zaM hr with rfl|rfl|rfl|rfl|rfl|rfl<;>decide
   have t1:(((headT (.base c)).toNat:Int) == 83)=false:=(zaQ hne.1 rfl).1;have t2:(((headT (.base c)).toNat:Int) == 97)=false:=(zaQ hne.2 rfl).1;rw[show thereS L (.base c)=true by simp[thereS]];generalize tyB (.base c)=s at *;generalize headT (.base c)=h at *;clear hr hne
   go_enter Tryz.func116,Tryz.ntmps116
   go_wp2_with (go_at_call 93;(with_reducible refine(HK.out _).mono ?_);rintro e w1 ⟨rfl,hw1⟩;subst w1)
   go_ret;exact⟨rfl,zv3 _ _⟩
 | .ptr u,w,_,_,_=>by
   have HK:=Hd (fun w=>zcj 112 (.ptr u) w rfl);rw[show thereS L (.ptr u)=true by simp[thereS]];generalize tyB (.ptr u)=s at *
   go_enter Tryz.func116,Tryz.ntmps116
   go_wp2_with (go_at_call 93;(with_reducible refine(HK.out _).mono ?_);rintro e w1 ⟨rfl,hw1⟩;subst w1)
   go_ret;exact⟨rfl,zv3 _ _⟩
 | .fn ps r,w,_,_,_=>by
   have HK:=Hd (fun w=>zcj 102 (.fn ps r) w rfl);rw[show thereS L (.fn ps r)=true by simp[thereS]];generalize tyB (.fn ps r)=s at *
   go_enter Tryz.func116,Tryz.ntmps116
   go_wp2_with (go_at_call 93;(with_reducible refine(HK.out _).mono ?_);rintro e w1 ⟨rfl,hw1⟩;subst w1)
   go_ret;exact⟨rfl,zv3 _ _⟩
theorem zmL (n a:Nat)(hn:n≤8388608)(h1:1≤a)(h4:a≤4)(w:World):Calls Tryz.prog 120 #[.int .i64 (n:Int),.int .i64 (a:Int)] w fun e w'=>e=.returned (.int .i64 (fitN n a:Nat))∧w'=w:=by
 have hfin:=Hd (show fitN n a=(n+a-1) / a*a from rfl);have hb:=zkO n a h1 h4;have:a=1∨a=2∨a=3∨a=4:=by omega
 generalize fitN n a=r at *;rcases this with rfl|rfl|rfl|rfl
 all_goals
  go_enter Tryz.func120,Tryz.ntmps120
  go_wp2_with fail
  go_ret;refine⟨zpE ?_,rfl⟩;have:=hfin.out;omega
end Go.Proofs.YtbbaooeioogijaaGreatDoor
