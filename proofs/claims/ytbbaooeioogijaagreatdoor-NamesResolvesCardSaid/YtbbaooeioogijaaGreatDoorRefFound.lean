/- A name looked for: the reference. -/
import Derived.Test.YtbbaooeioogijaaGreatDoorMg14
namespace Go.Proofs.YtbbaooeioogijaaGreatDoor
open Go.RowKit Go.Maps
set_option maxRecDepth 100000
set_option maxHeartbeats 16000000
theorem zoH {L:List LocN}{n:ByteArray}{i:Nat}(hi:i<L.length)(h:L[i].1=n)(hno:∀(j:Nat) (hj:j<L.length),i<j→L[j].1≠n):L.reverse.find? (fun l=>decide (l.1=n))=some L[i]:=by
 have e:L=L.take i++(L[i] :: L.drop (i+1)):=by rw[← List.drop_eq_getElem_cons hi,List.take_append_drop]
 generalize L[i]=x at *;have hd:∀y ∈ L.drop (i+1),y.1≠n:=fun y hy=>by
  obtain⟨j,hj,rfl⟩:=List.getElem_of_mem hy;rw[List.length_drop]at hj;rw[List.getElem_drop];exact hno _ _ (by omega)
 generalize L.take i=A at *;generalize L.drop (i+1)=D at *;subst e;rw[List.reverse_append,List.reverse_cons,List.find?_append,List.find?_append];have h0:D.reverse.find? (fun l=>decide (l.1=n))=none:=by
  rw[List.find?_eq_none];intro y hy;simpa using hd y (List.mem_reverse.1 hy)
 rw[h0,Option.none_or];simp[h]
theorem zoG {L:List LocN}{n:ByteArray}(hno:∀(j:Nat) (hj:j<L.length),L[j].1≠n):L.reverse.find? (fun l=>decide (l.1=n))=none:=by
 rw[List.find?_eq_none];intro y hy;obtain⟨j,hj,rfl⟩:=List.getElem_of_mem (List.mem_reverse.1 hy);simpa using hno j hj
theorem ziA {L:List (ByteArray × Bnd)}{n:ByteArray}{i:Nat}(hi:i<L.length)(h:L[i].1=n)(hno:∀(j:Nat) (hj:j<L.length),j<i→L[j].1≠n):entB L n=some L[i].2:=by
 have e:L=L.take i++(L[i] :: L.drop (i+1)):=by rw[← List.drop_eq_getElem_cons hi,List.take_append_drop]
 generalize L[i]=x at *;have hd:∀y ∈ L.take i,y.1≠n:=fun y hy=>by
  obtain⟨j,hj,rfl⟩:=List.getElem_of_mem hy;rw[List.length_take]at hj;rw[List.getElem_take];exact hno _ _ (by omega)
 generalize L.take i=A at *;generalize L.drop (i+1)=D at *;subst e;unfold entB;have h0:A.find? (fun q=>decide (q.1=n))=none:=by
  rw[List.find?_eq_none];intro y hy;simpa using hd y hy
 rw[List.find?_append,h0,Option.none_or];simp[h]
theorem zoT {n:ByteArray}(h:0≤builtI n):∃i:Nat,i<10∧builtI n=(i:Int)∧entB bltE n=some ⟨4,(i:Int),(builtL.getD i (⟨#[]⟩,⟨#[]⟩)).2⟩:=by
 rcases hq:builtL.findIdx? (fun q=>decide (q.1=n)) with _|i
 ·unfold builtI at h
  rw[hq]at h;exact absurd h (by decide)
 ·have hq2:=hq
  rw[List.findIdx?_eq_some_iff_getElem]at hq;obtain⟨hi,h1,h2⟩:=hq;refine⟨i,by rw[zet]at hi;exact hi,by unfold builtI;rw[hq2];rfl,?_⟩;have hl:i<bltE.length:=by unfold bltE;rw[List.length_map,List.length_range];rw[zet]at hi;exact hi
  have hg:∀j (hj:j<bltE.length),bltE[j]=(bltN j,(⟨4,(j:Int),(builtL.getD j (⟨#[]⟩,⟨#[]⟩)).2⟩:Bnd)):=fun j hj=>by
   simp only[bltE,List.getElem_map,List.getElem_range]
   rfl
  have h4:=ziA hl (n:=n) (by
   rw[hg];rw[zdB hi]at h1;simpa using h1) (fun j hj hji=>by
   rw[hg];have h3:=h2 j hji;rw[zdB (Nat.lt_trans hji hi)]at h3
   exact show bltN j≠n from by simpa using h3)
  rw[h4,hg]
theorem zpm (x:SlU):(zaL x).length=4:=rfl
structure FileAt (B:Nat)(w:World)(fs:FileN)(af:Option Addr)(cf:Nat)(an:Option Addr)(cn:Nat):Prop where
 out:IsSl 3 bndCells B w af (fs.ents.map Prod.snd)
 names:IsSl 1 zdo B w an (fs.ents.map Prod.fst)
 len:fs.ents.length≤512
theorem zlz {B b:Nat}{vt sv bv iv:Value}{s:WayN}{f:Int × Int}{fs:FileN}{af an:Option Addr}{cf cn:Nat}(n:ByteArray)(w:World)(h:WayM B w b vt (.slice af fs.ents.length cf) (.slice an fs.ents.length cn) sv bv iv s f)(hF:FileAt B w fs af cf an cn)(hl:s.ins.length≤300)(_hs:s.slots.length≤300) :
 Calls Tryz.prog 66 #[.pointer (some ⟨b,0,none⟩),.string n] w (zmp (s.found fs n) w):=by
 obtain⟨ai,ci,rfl⟩:=zam h.ins;obtain⟨asl,cs,rfl⟩:=zam h.slots;have HM:=Hd h;have HF:=Hd hF;have hBw:=h.bLe;have hf5:=hF.len;clear h hF
 go_enter Tryz.func66,Tryz.ntmps66
 go_upto_region 1 with fail
 generalize hgQ:w.alloc (.cells #[.int .i64 0,.int .i64 0,.string ⟨#[]⟩] 78)=w1 at *;obtain⟨hx,hb1⟩:=box0 hgQ;clear hgQ;have HB1:=Hd hb1;have HW:=Hd (fun w' (g:Below w1.heap.size w1 w')=>hb1.trans (g.mono hb1.size));have HK:=Hd (fun w' (g:Below w1.heap.size w1 w')=>(zaC ((HM.out.below (hb1.trans (g.mono hb1.size))).blk)).1);have HR:=Hd (fun w' (g:Below w1.heap.size w1 w')=>zac ((g.block _ (zaa hx)).trans hx));clear hb1 hx;obtain⟨k0,k1,k2,k3,k4,k5,k6,k7⟩:=HK.out w1 (zv3 _ _);have hli:(s.ins.length:Int)≤300:=by omega
 have hlf:(fs.ents.length:Int)≤512:=by omega
 have hw1:IntKind.i64.wrap ((s.ins.length:Int)-1)=(s.ins.length:Int)-1:=by rw[IntKind.wrap_i64];omega
 go_upto_region 2 with fail
 go_loopg [6] s.ins.length (fun m v6 wy=>∃(j:Nat),j≤s.ins.length∧m=j∧v6=.int .i64 ((j:Int)-1)∧Hid (∀(q:Nat) (hq:q<s.ins.length),j≤q→s.ins[q].1≠n)∧Hid (Below w1.heap.size w1 wy))
 case atStart=>exact⟨s.ins.length,by omega,by omega,rfl,Hd (fun q hq h=>by omega),Hd (zv3 _ _)⟩
 case round=>
  obtain⟨j,hj,hjm,rfl,HN,HB⟩:=hrel;clear k0 k1 k2 k3 k4 k5 k6 k7 hw1;obtain⟨k0,k1,k2,k3,k4,k5,k6,k7⟩:=HK.out wr HB.out;rcases j with _|i
  ·have HNo:=Hd (show s.found fs n=fs.look n from by
    unfold WayN.found
    rw[zoG (fun j hj=>HN.out j hj (Nat.zero_le _))])
   have t0:decide ((0:Int)≤((0:Nat):Int)-1)=false:=by decide
   clear HN
   go_upto_region 7 with fail
   go_loopg [7] fs.ents.length (fun m v7 wy=>∃(j:Nat),j≤fs.ents.length∧j+m=fs.ents.length∧v7=.int .i64 (j:Int)∧Hid (∀(q:Nat) (hq:q<fs.ents.length),q<j→fs.ents[q].1≠n)∧Hid (Below w1.heap.size w1 wy))
   case atStart=>exact⟨0,by omega,by omega,rfl,Hd (fun q hq h=>by omega),HB⟩
   case round=>
    obtain⟨j,hj2,hjm2,rfl,HN,HB⟩:=hrel;clear k0 k1 k2 k3 k4 k5 k6 k7;obtain⟨k0,k1,k2,k3,k4,k5,k6,k7⟩:=HK.out wr HB.out
    by_cases hlt:j<fs.ents.length
    ·have hlt1:j<(fs.ents.map Prod.fst).length:=by rw[List.length_map];exact hlt
     have hlt2:j<(fs.ents.map Prod.snd).length:=by rw[List.length_map];exact hlt
     obtain⟨b1,o1,rfl,hb1,c0⟩:=zlh HF.out.names hlt1;obtain⟨b2,o2,rfl,hb2,e0,e1,e2⟩:=zmi HF.out.out hlt2;have hbw:=HW.out wr HB.out;rw[← hbw.cell (zv5 hb1 hBw)]at c0;rw[← hbw.cell (zv5 hb2 hBw)]at e0 e1 e2;rw[List.getElem_map]at c0 e0 e1 e2;have he:=zbD (a:=fs.ents[j].1) (b:=n);clear hbw
     by_cases hs1:fs.ents[j].1=n
     ·rw[decide_eq_true hs1]at he
      have HFd:=Hd (show s.found fs n=some fs.ents[j].2 from by
       rw[HNo.out]
       exact zek (ziA hlt hs1 HN.out))
      clear hs1;generalize fs.ents[j].2=y at *;generalize fs.ents[j].1=yn at *;obtain⟨yk,yi,yt⟩:=y;simp only at e0 e1 e2;obtain⟨⟨d0,d1,d2⟩,fd⟩:=HR.out wr HB.out;have fd0:=fd 0;have fd1:=fd 1;have fd2:=fd 2;clear fd
      go_wp2_with fail
      refine bodyPost_ret (v:=.tuple #[bndV ⟨yk,yi,yt⟩,.bool true]) (by simp only[bndV];simp[results,Tryz.results66,go_sem,d0,d1,d2]) rfl ⟨by rw[HFd.out];rfl,?_⟩;exact Below.setCell (Below.setCell (Below.setCell (HW.out wr HB.out) (zv0 _) _) (zv0 _) _) (zv0 _) _
     ·rw[decide_eq_false hs1]at he
      have HN2:=Hd (show ∀(q:Nat) (hq:q<fs.ents.length),q<j+1→fs.ents[q].1≠n from fun q hq h=>by
       rcases Nat.lt_or_ge q j with h1|h1
       ·exact HN.out q hq h1
       ·obtain rfl:q=j:=by omega
        exact hs1)
      clear hs1 e0 e1 e2;generalize fs.ents[j].1=yn at *
      go_wp2_with fail
      go_roundg (fs.ents.length-(j+1))
      case measure=>omega
      case rel=>exact⟨j+1,by omega,by omega,by rw[zv9];rfl,HN2,HB⟩
    ·obtain rfl:j=fs.ents.length:=by omega
     have HE:=Hd (show s.found fs n=entB bltE n from by
      rw[HNo.out];unfold FileN.look
      rw[zdi.2 fun q hq=>by
       obtain⟨i,hi,rfl⟩:=List.getElem_of_mem hq
       exact HN.out i hi hi])
     have HBl:=Hd (zdV n wr);clear HN k0 k1 k2 k3 k4 k5 k6 k7;obtain⟨k0,k1,k2,k3,k4,k5,k6,k7⟩:=HK.out wr HB.out
     by_cases hbi:0≤builtI n
     ·obtain⟨i,hi10,hbe,hen⟩:=zoT hbi
      rw[hbe]at HBl;have HEn:=Hd (HE.out.trans hen);have t5:decide ((i:Int)<0)=false:=by simp
      have hi1:(i:Int)<10:=by omega
      clear hbi hbe hen HE
      go_upto_region 12 with (go_at_call 24;(with_reducible refine HBl.out.mono ?_);rintro e w5 ⟨rfl,hb5⟩;have HB5:=Ht HB hb5;clear hb5)
      have HBt:=Hd (zgV w5);clear k0 k1 k2 k3 k4 k5 k6 k7
      go_upto_region 14 with fail
      go_wp2_with (go_at_call 14;(with_reducible refine HBt.out.mono ?_);rintro e w6 ⟨rfl,hb6,hbl⟩;have HB6:=Ht HB5 hb6;obtain⟨m0,m1,m2⟩:=hbl.cells hi10;obtain⟨⟨d0,d1,d2⟩,fd⟩:=HR.out w6 HB6.out;have fd0:=fd 0;have fd1:=fd 1;have fd2:=fd 2;clear hb6 hbl fd)
      refine bodyPost_ret (v:=.tuple #[bndV ⟨4,(i:Int),(builtL.getD i (⟨#[]⟩,⟨#[]⟩)).2⟩,.bool true]) (by simp only[bndV];simp[results,Tryz.results66,go_sem,d0,d1,d2]) rfl ⟨by rw[HEn.out];rfl,?_⟩;exact Below.setCell (Below.setCell (Below.setCell (HW.out _ HB6.out) (zv0 _) _) (zv0 _) _) (zv0 _) _
     ·have HEn:=Hd (show s.found fs n=none from HE.out.trans (by
       rcases zc1 n with ⟨_,h⟩|⟨h,_⟩
       ·exact h
       ·exact absurd h hbi))
      have t5:decide (builtI n<0)=true:=by simp;omega
      clear hbi HE;generalize builtI n=bi at *
      go_upto_region 12 with (go_at_call 24;(with_reducible refine HBl.out.mono ?_);rintro e w5 ⟨rfl,hb5⟩;have HB5:=Ht HB hb5;clear hb5)
      obtain⟨⟨d0,d1,d2⟩,fd⟩:=HR.out w5 HB5.out;have fd0:=fd 0;have fd1:=fd 1;have fd2:=fd 2;clear fd k0 k1 k2 k3 k4 k5 k6 k7
      go_wp2_with fail
      refine bodyPost_ret (v:=.tuple #[bndV bnd0,.bool false]) (by simp only[zmq];simp[results,Tryz.results66,go_sem,d0,d1,d2]) rfl ⟨by rw[HEn.out];rfl,?_⟩;exact Below.setCell (Below.setCell (Below.setCell (HW.out _ HB5.out) (zv0 _) _) (zv0 _) _) (zv0 _) _
  ·have e:((i+1:Nat):Int)-1=(i:Int):=by omega
   rw[e];clear e;have hil:i<s.ins.length:=by omega
   have hM:=HM.out.below (HW.out wr HB.out);obtain⟨g,cap,hgs,_,_,_,_,hcs,_⟩:=zax zlV hM.ins rfl hil;obtain⟨rfl,rfl⟩:ai=some ⟨g,0,none⟩∧ci=cap:=by simpa using hgs
   have m0:=hcs 0 _ rfl;have m1:=hcs 1 _ rfl;rw[Nat.add_zero]at m0;have hok:=hM.ok _ (zwb hil);obtain⟨g2,cap2,hgs2,_,_,_,_,hcs2,_⟩:=zax zpm hM.slots rfl hok;obtain⟨rfl,rfl⟩:asl=some ⟨g2,0,none⟩∧cs=cap2:=by simpa using hgs2
   have m2:=hcs2 1 _ rfl;have he:=zbD (a:=s.ins[i].1) (b:=n);clear hcs hcs2 hgs hgs2 hM
   by_cases hs1:s.ins[i].1=n
   ·rw[decide_eq_true hs1]at he
    have HFd:=Hd (show s.found fs n=some ⟨3,(s.ins[i].2.1:Int),s.slots[s.ins[i].2.1].type⟩ from by
     unfold WayN.found;rw[zoH hil hs1 (fun j hj h=>HN.out j hj (by omega))];unfold locB;simp only;rw[zv2,zv1 hok]
     rfl)
    clear hs1 HN;generalize s.slots[s.ins[i].2.1].type=ty at *;generalize s.ins[i].1=yn at *;generalize s.ins[i].2.1=sx at *;have h1:(0:Int)≤(sx:Int):=by omega
    have h2:(sx:Int)<(s.slots.length:Int):=by omega
    have h3:(0:Int)≤(i:Int):=by omega
    have h4:(i:Int)<(s.ins.length:Int):=by omega
    obtain⟨⟨d0,d1,d2⟩,fd⟩:=HR.out wr HB.out;have fd0:=fd 0;have fd1:=fd 1;have fd2:=fd 2;clear fd k0 k1 k2 k4 k6 k7
    go_upto_region 5 with fail
    go_region_law (fail)
    all_goals
     go_wp2_with fail
     refine bodyPost_ret (v:=.tuple #[bndV ⟨3,(sx:Int),ty⟩,.bool true]) (by simp only[bndV];simp[results,Tryz.results66,go_sem,d0,d1,d2]) rfl ⟨by rw[HFd.out];rfl,?_⟩;exact Below.drew (Below.setCell (Below.setCell (Below.setCell (HW.out wr HB.out) (zv0 _) _) (zv0 _) _) (zv0 _) _)
   ·rw[decide_eq_false hs1]at he
    have HN2:=Hd (show ∀(q:Nat) (hq:q<s.ins.length),i≤q→s.ins[q].1≠n from fun q hq h=>by
     rcases Nat.lt_or_ge i q with h1|h1
     ·exact HN.out q hq h1
     ·obtain rfl:q=i:=by omega
      exact hs1)
    clear hs1 m1 m2 HN;generalize s.ins[i].1=yn at *;have hw2:IntKind.i64.wrap ((i:Int)-1)=(i:Int)-1:=by rw[IntKind.wrap_i64];omega
    go_wp2_with fail
    go_roundg i
    case measure=>omega
    case rel=>exact⟨i,by omega,rfl,rfl,HN2,HB⟩
end Go.Proofs.YtbbaooeioogijaaGreatDoor
