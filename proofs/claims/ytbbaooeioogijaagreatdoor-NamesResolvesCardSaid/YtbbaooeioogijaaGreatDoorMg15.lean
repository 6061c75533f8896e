/- A slot made: the reference. -/
import Derived.Test.YtbbaooeioogijaaGreatDoorRefFound
namespace Go.Proofs.YtbbaooeioogijaaGreatDoor
open Go.RowKit Go.Maps
set_option maxRecDepth 100000
set_option maxHeartbeats 16000000
def zju (B b:Nat)(vt vf vn sv bv iv:Value)(s:WayN)(a:(Int × Int) ⊕ WayN)(w:World)(e:Ending)(w':World):Prop:=match a with
 | .inl f=>e=.returned (.bool false)∧WStep B w w' b vt vf vn sv bv iv sv iv s f
 | .inr s'=>e=.returned (.bool true)∧∃sv',WStep B w w' b vt vf vn sv bv iv sv' iv s' (0,0)
theorem znO {L:List LocN}{n:ByteArray}{d i:Nat}(hi:i<L.length)(h1:L[i].1=n)(h2:L[i].2.2=d):zdP L n d=true:=by
 unfold zdP;rw[List.any_eq_true];exact⟨_,zwb hi,by simp[h1,h2]⟩
theorem zpd {L:List LocN}{n:ByteArray}{d:Nat}(h:∀(j:Nat) (hj:j<L.length),¬(L[j].1=n∧L[j].2.2=d)):zdP L n d=false:=by
 rw[Bool.eq_false_iff];unfold zdP;intro e;rw[List.any_eq_true]at e;obtain⟨l,hl,e⟩:=e;obtain⟨j,hj,rfl⟩:=List.getElem_of_mem hl;simp only[Bool.and_eq_true,decide_eq_true_eq]at e;exact h j hj e
theorem zrY {s:WayN}{x:SlU}{a:Int}{d:Nat}(h:zdP s.ins x.name d=true):s.slot x a d=.inl (a,6):=by unfold WayN.slot;rw[if_pos h]
theorem zpl {s:WayN}{x:SlU}{a:Int}{d:Nat}(h:zdP s.ins x.name d=false)(hl:256≤s.slots.length):s.slot x a d=.inl (a,3):=by unfold WayN.slot;rw[if_neg (by rw[h];decide),if_pos hl]
theorem zrZ {s:WayN}{x:SlU}{a:Int}{d:Nat}(h:zdP s.ins x.name d=false)(hl:¬256≤s.slots.length):s.slot x a d=.inr ⟨s.slots++[x],s.out,s.ins⟩:=by unfold WayN.slot;rw[if_neg (by rw[h];decide),if_neg hl]
theorem zh2 {B b:Nat}{vt vf vn sv bv iv:Value}{s:WayN}(x:SlU)(at_:Int)(d:Nat)(w:World)(h:WayM B w b vt vf vn sv bv iv s (0,0))(hl:s.ins.length≤300)(hs:s.slots.length≤300)(_hd:d≤10000) :
 Calls Tryz.prog 45 #[.pointer (some ⟨b,0,none⟩),slUV x,.int .i64 at_,.int .i64 (d:Int)] w (zju B b vt vf vn sv bv iv s (s.slot x at_ d) w):=by
 obtain⟨ai,ci,rfl⟩:=zam h.ins;obtain⟨asl,cs,rfl⟩:=zam h.slots;have HM:=Hd h;have hBw:=h.bLe;have H6:=Hd (fun hh=>zrY (s:=s) (x:=x) (a:=at_) (d:=d) hh);have H3:=Hd (fun hh hg=>zpl (s:=s) (x:=x) (a:=at_) (d:=d) hh hg);have H0:=Hd (fun hh hg=>zrZ (s:=s) (x:=x) (a:=at_) (d:=d) hh hg);generalize s.slot x at_ d=res at *;have hli:(s.ins.length:Int)≤300:=by omega
 have hlf:(s.slots.length:Int)≤300:=by omega
 clear h;unfold slUV
 go_enter Tryz.func45,Tryz.ntmps45
 go_upto_region 1 with fail
 generalize hgQ:w.alloc (.cells #[.string x.name,.string x.type,.bool x.vol,.bool x.param] 91)=w1 at *;obtain⟨hx,hb1⟩:=box0 hgQ;clear hgQ;have HB1:=Hd hb1;have HW:=Hd (fun w' (g:Below w1.heap.size w1 w')=>hb1.trans (g.mono hb1.size));have HK:=Hd (fun w' (g:Below w1.heap.size w1 w')=>zaC ((HM.out.below (hb1.trans (g.mono hb1.size))).blk));have HX:=Hd (fun w' (g:Below w1.heap.size w1 w')=>(zeU ((g.block _ (zaa hx)).trans hx)).1);have HXz:=Hd (zaa hx);clear hb1 hx
 go_wp2_with fail
 go_loopg [9] s.ins.length (fun m v9 wy=>∃(i:Nat),i≤s.ins.length∧i+m=s.ins.length∧v9=.int .i64 (i:Int)∧Hid (∀(q:Nat) (hq:q<s.ins.length),q<i→¬(s.ins[q].1=x.name∧s.ins[q].2.2=d))∧Hid (Below w1.heap.size w1 wy))
 case atStart=>exact⟨0,by omega,by omega,rfl,Hd (fun q hq h=>by omega),Hd (zv3 _ _)⟩
 case round=>
  obtain⟨i,hi,him,rfl,HN,HB⟩:=hrel;obtain⟨⟨k0,k1,k2,k3,k4,k5,k6,k7⟩,kf⟩:=HK.out wr HB.out;obtain⟨x0,x1,x2,x3⟩:=HX.out wr HB.out
  by_cases hlt:i<s.ins.length
  ·have hM:=HM.out.below (HW.out wr HB.out)
   obtain⟨g,cap,hgs,_,_,_,_,hcs,_⟩:=zax zlV hM.ins rfl hlt;obtain⟨rfl,rfl⟩:ai=some ⟨g,0,none⟩∧ci=cap:=by simpa using hgs
   have m0:=hcs 0 _ rfl;have m2:=hcs 2 _ rfl;rw[Nat.add_zero]at m0;have he:=zbD (a:=s.ins[i].1) (b:=x.name);have h3:(0:Int)≤(i:Int):=by omega
   have h4:(i:Int)<(s.ins.length:Int):=by omega
   clear hcs hgs hM
   by_cases hs1:s.ins[i].1=x.name
   ·rw[decide_eq_true hs1]at he
    by_cases hs2:s.ins[i].2.2=d
    ·have t2:((s.ins[i].2.2:Int) == (d:Int))=true:=by rw[hs2];simp
     have HFin:=Hd (H6.out (znO hlt hs1 hs2));clear hs1 hs2;generalize s.ins[i].1=yn at *;generalize s.ins[i].2.2=dd at *;have kf6:=kf 6;have kf7:=kf 7;have HBr:=Hd (zaf HB.out);clear k0 k1 k2 k3 k4 kf
     go_upto_region 4 with fail
     go_quiet (fail)
     have HB2:=Hd (HBr.out nq);obtain⟨⟨_,_,_,_,_,_,j6,j7⟩,jf⟩:=HK.out _ HB2.out;have jf6:=jf 6;have jf7:=jf 7;clear k5 k6 k7 kf6 kf7 x0 x1 x2 x3 jf m0 m2;generalize wr.drewN nq=wr2 at *
     go_wp2_with fail
     go_ret;rw[HFin.out];exact⟨rfl,(WStep.of_below HM.out (HW.out wr2 HB2.out)).trans ((HM.out.below (HW.out wr2 HB2.out)).fault at_ 6)⟩
    ·have t2:((s.ins[i].2.2:Int) == (d:Int))=false:=by simp;omega
     have HN2:=Hd (show ∀(q:Nat) (hq:q<s.ins.length),q<i+1→¬(s.ins[q].1=x.name∧s.ins[q].2.2=d) from fun q hq h=>by
      rcases Nat.lt_or_ge q i with h1|h1
      ·exact HN.out q hq h1
      ·obtain rfl:q=i:=by omega
       exact fun h=>hs2 h.2)
     clear hs1 hs2;generalize s.ins[i].1=yn at *;generalize s.ins[i].2.2=dd at *;clear k0 k1 k2 k3 k4 k6 k7 kf
     go_upto_region 4 with fail
     go_quiet (fail)
     go_wp2_with fail
     go_roundg (s.ins.length-(i+1))
     case measure=>omega
     case rel=>exact⟨i+1,by omega,by omega,by rw[zv9];rfl,HN2,Hd (zaf HB.out _)⟩
   ·rw[decide_eq_false hs1]at he
    have HN2:=Hd (show ∀(q:Nat) (hq:q<s.ins.length),q<i+1→¬(s.ins[q].1=x.name∧s.ins[q].2.2=d) from fun q hq h=>by
     rcases Nat.lt_or_ge q i with h1|h1
     ·exact HN.out q hq h1
     ·obtain rfl:q=i:=by omega
      exact fun h=>hs1 h.1)
    clear hs1;generalize s.ins[i].1=yn at *;clear k0 k1 k2 k3 k4 k6 k7 kf m2
    go_upto_region 4 with fail
    go_quiet (fail)
    go_wp2_with fail
    go_roundg (s.ins.length-(i+1))
    case measure=>omega
    case rel=>exact⟨i+1,by omega,by omega,by rw[zv9];rfl,HN2,Hd (zaf HB.out _)⟩
  ·obtain rfl:i=s.ins.length:=by omega
   have HT:=Hd (zpd (fun j hj=>HN.out j hj hj));have kf3:=kf 3;have kf6:=kf 6;have kf7:=kf 7;clear HN kf
   by_cases hlg:256≤s.slots.length
   ·have HFin:=Hd (H3.out HT.out hlg)
    have t1:decide ((256:Int)≤(s.slots.length:Int))=true:=by simp;omega
    clear hlg
    go_wp2_with fail
    go_ret;rw[HFin.out];exact⟨rfl,(WStep.of_below HM.out (HW.out wr HB.out)).trans ((HM.out.below (HW.out wr HB.out)).fault at_ 3)⟩
   ·have HFin:=Hd (H0.out HT.out hlg)
    have t1:decide ((256:Int)≤(s.slots.length:Int))=false:=by simp;omega
    obtain⟨i0,hi0,hz0,hz1',hz2'⟩:=info_parts ztQ;have HIn:=Hd (And.intro hi0 (And.intro hz0 (And.intro hz1' hz2')));clear hlg hi0 hz0 hz1' hz2';have HBig:=Hd (show Below wr.heap.size wr (wr.alloc (.cells #[.string x.name,.string x.type,.bool x.vol,.bool x.param] 91)).drew from ((zv3 _ _).alloc (zv0 _) _).drew);have HMr:=Hd (HM.out.below (HW.out wr HB.out));have HMn:=Hd (HMr.out.below HBig.out);have hBr:B≤wr.heap.size:=HMr.out.bLe;have hrz:=HMr.out.lt;have hxz:w.heap.size<wr.heap.size:=zv5 (by have:=HB1.out.size;exact HXz.out) HB.out.size;clear k0 k1 k2 k4 k6 k7 kf3 kf6 kf7
    go_upto_region 10 with fail
    go_region_law ((refine step_append_lies _ (by rfl) _ _ _ (by rfl) B 91 i0 _ 4 40 Tryz.underlying52 HIn.out.1 HIn.out.2.1 HIn.out.2.2.1 HIn.out.2.2.2 rfl (by omega) (.slice asl s.slots.length cs) s.slots.length (s.slots.flatMap zaL) (by rfl) (HMr.out.slots.belowed HBig.out) ⟨wr.heap.size,0,none⟩ 1 1 (zaL x) (by rfl) (by rfl) (World.news_of_block (cs:=#[.string x.name,.string x.type,.bool x.vol,.bool x.param]) (t:=91) (fr:=(0,0)) (zv8 wr _)) (by simp[zaL,Value.oneCell']) (by omega) (by unfold maxLen;omega) (by omega) (by simp;omega) (wr.heap.size+1) (by simp) ?_;intro gg cpp w9 hown hgrow hat hlt9;obtain⟨⟨_,_,_,j3,_⟩,jf⟩:=zaC ((hgrow.block _ HMn.out.lt (fun e=>HMn.out.a1.1 e.symm)).trans HMn.out.blk);have jf3:=jf 3))
    all_goals
     have HS9:=Hd ((WStep.of_below HM.out (HW.out wr HB.out)).trans ((WStep.of_below HMr.out HBig.out).trans (HMn.out.grewS (x:=x) hgrow hown (fun k hk=>(zca hat hk).imp id (fun e=>e.trans (by show _=(wr.alloc _).heap.size;simp))))));clear hown hgrow hat hlt9 j3 jf jf3
     go_wp2_with fail
     go_ret;rw[HFin.out];exact⟨rfl,_,HS9.out⟩
structure RfM (B:Nat)(w:World)(gn cn go co gb cb:Nat)(N:List ByteArray)(O:List Bnd)(S:List ByteArray):Prop where
 names:w.ownsRow B 9 1 (.slice (some ⟨gn,0,none⟩) N.length cn) N.length (N.map .string)
 out:w.ownsRow B 78 3 (.slice (some ⟨go,0,none⟩) O.length co) O.length (O.flatMap bndCells)
 bodies:w.ownsRow B 9 1 (.slice (some ⟨gb,0,none⟩) S.length cb) S.length (S.map .string)
 apart:gn≠go∧gn≠gb∧go≠gb
structure RfM2 (B:Nat)(w:World)(gn cn go co:Nat)(N:List ByteArray)(O:List Bnd):Prop where
 names:w.ownsRow B 9 1 (.slice (some ⟨gn,0,none⟩) N.length cn) N.length (N.map .string)
 out:w.ownsRow B 78 3 (.slice (some ⟨go,0,none⟩) O.length co) O.length (O.flatMap bndCells)
 apart:gn≠go
section
variable {B gn cn go co gb cb:Nat} {w w':World} {N S:List ByteArray} {O:List Bnd}
theorem RfM.below (h:RfM B w gn cn go co gb cb N O S)(hb:Below w.heap.size w w'):RfM B w' gn cn go co gb cb N O S:=⟨h.names.belowed hb,h.out.belowed hb,h.bodies.belowed hb,h.apart⟩
theorem RfM.lt (h:RfM B w gn cn go co gb cb N O S):(B≤gn∧gn<w.heap.size)∧(B≤go∧go<w.heap.size)∧(B≤gb∧gb<w.heap.size):=⟨h.names.lt _ rfl,h.out.lt _ rfl,h.bodies.lt _ rfl⟩
theorem zb9 {e:TypeId}{size m:Nat}{v:Value}{xs:List Value}{g:Nat}(h:w.ownsRow B e size v m xs)(hg:w.grownBy w' (some g))(hne:v.ownBlock≠some g):w'.ownsRow B e size v m xs:=h.kept hg (.inr hne)
theorem RfM2.below (h:RfM2 B w gn cn go co N O)(hb:Below w.heap.size w w'):RfM2 B w' gn cn go co N O:=⟨h.names.belowed hb,h.out.belowed hb,h.apart⟩
theorem RfM2.lt (h:RfM2 B w gn cn go co N O):(B≤gn∧gn<w.heap.size)∧(B≤go∧go<w.heap.size):=⟨h.names.lt _ rfl,h.out.lt _ rfl⟩
theorem RfM2.grewN {gn' cn':Nat}{x:ByteArray}(h:RfM2 B w gn cn go co N O)(hg:w.grownBy w' (some gn))(ho:w'.ownsRow B 9 1 (.slice (some ⟨gn',0,none⟩) (N.length+1) cn') (N.length+1) (N.map .string++[.string x]))(hs:gn=gn'∨gn'=w.heap.size):RfM2 B w' gn' cn' go co (N++[x]) O:=by
 have h1:=h.apart;obtain⟨_,l2⟩:=h.lt;refine⟨by rw[List.length_append,List.map_append];exact ho,zb9 h.out hg (fun e=>h1 (zv4 e).symm),?_⟩;rcases hs with rfl|rfl
 ·exact h.apart
 ·omega
theorem RfM2.grewO {go' co':Nat}{x:Bnd}(h:RfM2 B w gn cn go co N O)(hg:w.grownBy w' (some go))(ho:w'.ownsRow B 78 3 (.slice (some ⟨go',0,none⟩) (O.length+1) co') (O.length+1) (O.flatMap bndCells++bndCells x))(hs:go=go'∨go'=w.heap.size):RfM2 B w' gn cn go' co' N (O++[x]):=by
 have h1:=h.apart;obtain⟨l1,_⟩:=h.lt;refine⟨zb9 h.names hg (fun e=>h1 (zv4 e)),by rw[List.length_append,List.flatMap_append];simpa using ho,?_⟩;rcases hs with rfl|rfl
 ·exact h.apart
 ·omega
theorem RfM2.three (h:RfM2 B w gn cn go co N O):RfM B (w.alloc (.cells #[] 9)) gn cn go co w.heap.size 0 N O []:=by
 obtain⟨l1,l2⟩:=h.lt;have h2:=h.below (ba1 w (.cells #[] 9));exact⟨h2.names,h2.out,World.ownsRow_lit w #[] 0 (by omega) (by decide) rfl,h.apart,by omega,by omega⟩
theorem zsn (w:World):RfM2 w.heap.size ((w.alloc (.cells #[] 9)).alloc (.cells #[] 78)) w.heap.size 0 (w.heap.size+1) 0 [] []:=by
 have h1:(w.alloc (.cells #[] 9)).ownsRow w.heap.size 9 1 (.slice (some ⟨w.heap.size,0,none⟩) 0 0) 0 (([]:List ByteArray).map .string):=World.ownsRow_lit w #[] 0 (zv0 _) (by decide) rfl;have h2:=World.ownsRow_lit (base:=w.heap.size) (w.alloc (.cells #[] 9)) (e:=78) (size:=3) #[] 0 (by simp) (by decide) rfl;rw[World.size_alloc]at h2;exact⟨h1.belowed (ba1 _ _),h2,by omega⟩
theorem RfM.grewN {gn' cn':Nat}{x:ByteArray}(h:RfM B w gn cn go co gb cb N O S)(hg:w.grownBy w' (some gn))(ho:w'.ownsRow B 9 1 (.slice (some ⟨gn',0,none⟩) (N.length+1) cn') (N.length+1) (N.map .string++[.string x]))(hs:gn=gn'∨gn'=w.heap.size):RfM B w' gn' cn' go co gb cb (N++[x]) O S:=by
 obtain⟨h1,h2,h3⟩:=h.apart;obtain⟨_,l2,l3⟩:=h.lt;refine⟨by rw[List.length_append,List.map_append];exact ho,zb9 h.out hg (fun e=>h1 (zv4 e).symm),zb9 h.bodies hg (fun e=>h2 (zv4 e).symm),?_⟩;rcases hs with rfl|rfl
 ·exact h.apart
 ·exact⟨by omega,by omega,h3⟩
theorem RfM.grewO {go' co':Nat}{x:Bnd}(h:RfM B w gn cn go co gb cb N O S)(hg:w.grownBy w' (some go))(ho:w'.ownsRow B 78 3 (.slice (some ⟨go',0,none⟩) (O.length+1) co') (O.length+1) (O.flatMap bndCells++bndCells x))(hs:go=go'∨go'=w.heap.size):RfM B w' gn cn go' co' gb cb N (O++[x]) S:=by
 obtain⟨h1,h2,h3⟩:=h.apart;obtain⟨l1,_,l3⟩:=h.lt;refine⟨zb9 h.names hg (fun e=>h1 (zv4 e)),by rw[List.length_append,List.flatMap_append];simpa using ho,zb9 h.bodies hg (fun e=>h3 (zv4 e).symm),?_⟩;rcases hs with rfl|rfl
 ·exact h.apart
 ·exact⟨by omega,h2,by omega⟩
theorem RfM.grewB {gb' cb':Nat}{x:ByteArray}(h:RfM B w gn cn go co gb cb N O S)(hg:w.grownBy w' (some gb))(ho:w'.ownsRow B 9 1 (.slice (some ⟨gb',0,none⟩) (S.length+1) cb') (S.length+1) (S.map .string++[.string x]))(hs:gb=gb'∨gb'=w.heap.size):RfM B w' gn cn go co gb' cb' N O (S++[x]):=by
 obtain⟨h1,h2,h3⟩:=h.apart;obtain⟨l1,l2,_⟩:=h.lt;refine⟨zb9 h.names hg (fun e=>h2 (zv4 e)),zb9 h.out hg (fun e=>h3 (zv4 e)),by rw[List.length_append,List.map_append];exact ho,?_⟩;rcases hs with rfl|rfl
 ·exact h.apart
 ·exact⟨h1,by omega,by omega⟩
end
theorem zdA (x:Bnd):(bndCells x).length=3:=rfl
theorem zli {w:World}{B g n c:Nat}{L:List ByteArray}(h:w.ownsRow B 9 1 (.slice (some ⟨g,0,none⟩) n c) n (L.map .string))(hn:n=L.length):(g<w.heap.size∧n≤c∧c≤maxLen)∧∀j (hj:j<L.length),w.cell? ⟨g,j,none⟩=some (.string L[j]):=by
 subst hn;have h0:=h;obtain⟨hl,h⟩:=h;rcases h with ⟨h,_⟩|⟨g',cap',cur,e,hb,hg,hn,hc,hs,ht⟩
 ·cases h
 ·simp only[Value.slice.injEq,Option.some.injEq,Addr.mk.injEq,and_true]at e
  obtain⟨rfl,_,rfl⟩:=e;refine⟨⟨zaa hg,hn,hc⟩,fun j hj=>?_⟩;have hL:L.map Value.string=L.flatMap fun s=>[Value.string s]:=List.map_eq_flatMap
  rw[hL]at h0;have:=zfb (k:=1) (cells:=fun s=>[Value.string s]) (fun _=>rfl) h0 (zv1 hj) (j:=0) rfl
  rwa [Nat.mul_one,Nat.add_zero]at this
theorem zm9 {w:World}{B g n c k:Nat}{L:List ByteArray}(s:ByteArray)(h:w.ownsRow B 9 1 (.slice (some ⟨g,0,none⟩) n c) n (L.map .string))(hn:n=L.length)(hk:k≤n)(hl:n≤1048576) :
 Calls Tryz.prog 23 #[.slice (some ⟨g,0,none⟩) k c,.string s] w fun e w'=>e=.returned (.bool (Lib.containsS (L.take k) s))∧w'=w:=by
 obtain⟨_,hc⟩:=zli h hn;have hlt:(L.take k).length=k:=List.length_take_of_le (by omega)
 have:=zhB g c (L.take k) s w (by omega) (fun j hj=>by
  rw[hlt]at hj;rw[hc j (by omega),zv2,List.getElem?_take_of_lt hj,zv1 (by omega)]
  rfl)
 rw[hlt]at this;exact this.mono fun _ _ ⟨h1,h2⟩=>⟨h1,h2.symm⟩
theorem zm8 {L:List ByteArray}{s:ByteArray}(h:s ∈ L):Lib.containsS L s=true:=(Lib.containsS_iff _ _).2 h
theorem zs9 {L:List ByteArray}{s:ByteArray}(h:s ∉ L):Lib.containsS L s=false:=by
 rw[Bool.eq_false_iff];exact fun e=>h ((Lib.containsS_iff _ _).1 e)
set_option maxHeartbeats 16000000
def zk5 (B b:Nat)(vt vf vn sv bv iv:Value)(a:(Int × Int) ⊕ WayN)(w:World)(e:Ending)(w':World):Prop:=match a with
 | .inl f=>e=.returned (.bool false)∧∃sv' iv' s',WStep B w w' b vt vf vn sv bv iv sv' iv' s' f
 | .inr s'=>e=.returned (.bool true)∧∃sv' iv',WStep B w w' b vt vf vn sv bv iv sv' iv' s' (0,0)
theorem FileAt.below {B:Nat}{w w':World}{fs:FileN}{af an:Option Addr}{cf cn:Nat}(h:FileAt B w fs af cf an cn)(hb:Below B w w'):FileAt B w' fs af cf an cn:=⟨h.out.below hb (zv0 _),h.names.below hb (zv0 _),h.len⟩
def zfW (B b:Nat)(fs:FileN)(t:List Nd)(ta:Option Addr)(ct:Nat)(fr:List Nat)(af:Option Addr)(cf:Nat)(an:Option Addr)(cn:Nat)(bv:Value)(k:Nat):Prop:=
 ∀(w:World) (d:Nat) (sv iv:Value) (s:WayN),WayM B w b (.slice ta t.length ct) (.slice af fs.ents.length cf) (.slice an fs.ents.length cn) sv bv iv s (0,0)→zaV B w ta t→FileAt B w fs af cf an cn→s.slots.length≤256→s.ins.length≤s.slots.length→s.out.length=t.length→d+k≤9000 →
  Calls Tryz.prog 46 #[.pointer (some ⟨b,0,none⟩),.int .i64 (k:Int),.int .i64 (d:Int)] w (zk5 B b (.slice ta t.length ct) (.slice af fs.ents.length cf) (.slice an fs.ents.length cn) sv bv iv (goN t fr fs k d s) w)
theorem WayM.old {B b:Nat}{w:World}{vt vf vn sv bv iv:Value}{s:WayN}{f:Int × Int}(h:WayM B w b vt vf vn sv bv iv s f){k:Nat}(hk:w.heap.size≤k):¬TouW b sv bv iv k:=by
 have h1:=h.lt;rintro(e|e|e|e)
 ·omega
 ·have:=(h.slots.lt k e).2;omega
 ·have:=(h.out.lt k e).2;omega
 ·have:=(h.ins.lt k e).2;omega
theorem zn8 {B b:Nat}{fs:FileN}{t:List Nd}{ta:Option Addr}{ct:Nat}{fr:List Nat}{af:Option Addr}{cf:Nat}{an:Option Addr}{cn:Nat}{bv:Value}(hf:Formed t fr)(k:Nat)(hk:k<t.length)(hl:t.length≤4096)(h3:(t.getD k ndU0).kind=3):zfW B b fs t ta ct fr af cf an cn bv k:=by
 intro w d sv iv s h hI hF hs hi ho hd;have hgo:=zgf (fs:=fs) hf k d s;rw[if_pos h3]at hgo;have hx:t.getD k ndU0=t[k]:=by simp[List.getD,hk]
 rw[hx]at hgo h3;obtain⟨ba,off,ha,hbl,x0,x1,x2,x3,x4,x5⟩:=zbg hI hk;clear hx;generalize t[k]=x at *;obtain⟨xk,xn,xa,xi,xt,xy⟩:=x;simp only at *;subst ha;subst h3;obtain⟨⟨k0,k1,k2,k3,k4,k5,k6,k7⟩,kf⟩:=zaC h.blk;have hBw:=h.bLe;have HM:=Hd h;have hk0:(0:Int)≤(k:Int):=by omega
 have hkt:(k:Int)<(t.length:Int):=by omega
 have HFd:=Hd (fun w1 (hb:Below w.heap.size w w1)=>zlz (f:=(0,0)) xt w1 (h.below hb) (hF.below (hb.mono hBw)) (by omega) (by omega));unfold zmp at HFd;have HGo:=Hd hgo;generalize goN t fr fs k d s=res at *;have hko:k<s.out.length:=by omega
 have hol:(s.out.length:Int)≤4096:=by omega
 have hko2:(k:Int)<(s.out.length:Int):=by omega
 clear ho;obtain⟨g,cap,rfl,_,_,_,_,hcs,hfz⟩:=zax zdA h.out rfl hko
 have HO:=Hd (fun w1 {v1 v2 v3 sv' iv':Value} (hm:WayM B w1 b v1 v2 v3 sv' (.slice (some ⟨g,0,none⟩) s.out.length cap) iv' s (0,0))=>show ∃c0 c1 c2,w1.cell? ⟨g,k*3,none⟩=some c0∧w1.cell? ⟨g,k*3+1,none⟩=some c1∧w1.cell? ⟨g,k*3+2,none⟩=some c2∧∀j,w1.frozen? ⟨g,j,none⟩=false from by
  obtain⟨g2,cap2,e,_,_,_,_,hcs,hfz⟩:=zax zdA hm.out rfl hko;obtain⟨rfl,_⟩:g=g2∧cap=cap2:=by simpa using e
  have m0:=hcs 0 _ rfl;rw[Nat.add_zero]at m0
  exact⟨_,_,_,m0,hcs 1 _ rfl,hcs 2 _ rfl,hfz⟩)
 clear h hI hF hgo hcs hfz
 go_enter Tryz.func46,Tryz.ntmps46
 go_upto_region 2 with fail
 generalize hgQ:w.alloc (.cells #[.int .i64 3,.int .i64 xn,.int .i64 xa,.int .i64 xi,.string xt,.string xy] 47)=w1 at *;obtain⟨hq1,hb1⟩:=box0 hgQ;clear hgQ;have HM1:=Hd (HM.out.below hb1);have HW0:=Hd (WStep.of_below HM.out hb1);have HNt:=Hd (HM.out.old (zv0 w.heap.size));have HX:=Hd (fun wx {v1 v2 v3 sv' iv':Value} {s':WayN} {f':Int × Int} (gg:WStep B w1 wx b v1 v2 v3 sv (.slice (some ⟨g,0,none⟩) s.out.length cap) iv sv' iv' s' f')=>(zal ((gg.keep _ (zaa hq1) HNt.out).trans hq1)).1);have HK:=Hd (fun wx {v1 v2 v3 sv' iv':Value} {s':WayN} {f':Int × Int} (gg:WStep B w1 wx b v1 v2 v3 sv (.slice (some ⟨g,0,none⟩) s.out.length cap) iv sv' iv' s' f')=>zaC gg.m.blk);obtain⟨y0,y1,y2,y3,y4,y5⟩:=HX.out w1 (WStep.refl HM1.out);have HF1:=Hd (HFd.out w1 hb1);clear hb1 hq1 HFd k0 k1 k2 k3 k4 k5 k6 k7 kf x0 x1 x2 x3 x4 x5;rcases hfo:s.found fs xt with _|⟨yk,yi,yt⟩
 ·rw[hfo]at HF1 HGo
  simp only[Option.getD_none,Option.isSome_none,zmq]at HF1 HGo;clear hfo
  go_upto_region 4 with (go_at_call 66;(with_reducible refine HF1.out.mono ?_);rintro e w2 ⟨rfl,hb2⟩;have HB2:=Hd hb2;clear hb2)
  generalize hgQ:w2.alloc (.cells #[.int .i64 0,.int .i64 0,.string ⟨#[]⟩] 78)=w3 at *;obtain⟨hq3,hb3⟩:=box0 hgQ;clear hgQ;have HS3:=Hd (WStep.of_below HM1.out (HB2.out.trans (hb3.mono HB2.out.size)));obtain⟨⟨z0,z1,z2⟩,_⟩:=zac hq3;obtain⟨⟨k0,k1,k2,k3,k4,k5,k6,k7⟩,kf⟩:=HK.out w3 HS3.out;obtain⟨c0,c1,c2,m0,m1,m2,fz⟩:=HO.out w3 HS3.out.m;have fz0:=fz (k*3);have fz1:=fz (k*3+1);have fz2:=fz (k*3+2);have HS4:=Hd ((HS3.out.trans (HS3.out.m.put rfl hko ⟨0,0,⟨#[]⟩⟩)).more (zv3 _ _).drew);clear fz hb3 hq3 y0 y1 y2 y3 y4 y5 kf
  go_region_law (fail)
  all_goals
   clear z0 z1 z2 k0 k1 k2 k3 k4 k5 k6 k7 m0 m1 m2 fz0 fz1 fz2;generalize (((w3.setCell ⟨g,k*3,none⟩ (.int .i64 0)).setCell ⟨g,k*3+1,none⟩ (.int .i64 0)).setCell ⟨g,k*3+2,none⟩ (.string ⟨#[]⟩)).drew=w4 at *;obtain⟨⟨k0,k1,k2,k3,k4,k5,k6,k7⟩,kf⟩:=HK.out w4 HS4.out;obtain⟨y0,y1,y2,y3,y4,y5⟩:=HX.out w4 HS4.out;have kf6:=kf 6;have kf7:=kf 7;clear k0 k1 k2 k3 k4 k5 kf
   go_wp2_with fail
   go_ret;rw[HGo.out];exact⟨rfl,_,_,_,HW0.out.trans (HS4.out.trans (HS4.out.m.fault xa 130))⟩
 ·rw[hfo]at HF1 HGo
  simp only[Option.getD_some,Option.isSome_some,bndV]at HF1 HGo;clear hfo
  go_upto_region 4 with (go_at_call 66;(with_reducible refine HF1.out.mono ?_);rintro e w2 ⟨rfl,hb2⟩;have HB2:=Hd hb2;clear hb2)
  generalize hgQ:w2.alloc (.cells #[.int .i64 yk,.int .i64 yi,.string yt] 78)=w3 at *;obtain⟨hq3,hb3⟩:=box0 hgQ;clear hgQ;have HS3:=Hd (WStep.of_below HM1.out (HB2.out.trans (hb3.mono HB2.out.size)));obtain⟨⟨z0,z1,z2⟩,_⟩:=zac hq3;obtain⟨⟨k0,k1,k2,k3,k4,k5,k6,k7⟩,kf⟩:=HK.out w3 HS3.out;obtain⟨c0,c1,c2,m0,m1,m2,fz⟩:=HO.out w3 HS3.out.m;have fz0:=fz (k*3);have fz1:=fz (k*3+1);have fz2:=fz (k*3+2);have HS4:=Hd ((HS3.out.trans (HS3.out.m.put rfl hko ⟨yk,yi,yt⟩)).more (zv3 _ _).drew);clear fz hb3 hq3 y0 y1 y2 y3 y4 y5 kf
  go_region_law (fail)
  all_goals
   clear z0 z1 z2 k0 k1 k2 k3 k4 k5 k6 k7 m0 m1 m2 fz0 fz1 fz2
   go_wp2_with fail
   go_ret;rw[HGo.out];exact⟨rfl,_,_,HW0.out.trans HS4.out⟩
structure RoomV (s:ScN)(r:ResN):Prop where
 small:Small r
 ents:s.ents.length≤r.slots.length
 taken:s.taken.length≤r.slots.length
theorem RoomV.grow {s:ScN}{r:ResN}{q:ResN × ScN}(h:RoomV s r)(g:Grow s r q):RoomV q.2 q.1:=by
 obtain⟨g1,g2,g3,_,g5⟩:=g;have h1:=h.ents;have h2:=h.taken;exact⟨g5 h.small,by omega,by omega⟩
theorem RoomV.new {s:ScN}{r:ResN}(h:RoomV s r):RoomV ScN.new r:=⟨h.small,Nat.zero_le _,Nat.zero_le _⟩
theorem RoomV.name {fs:FileN}{c:List ScN}{x:Nd}{k:Nat}{s:ScN}{r:ResN}(h:RoomV s r):RoomV s (zbZ fs c x k r):=by
 obtain⟨l1,_,l3⟩:=zki (fs:=fs) (c:=c) (x:=x) (k:=k) (r:=r);exact⟨l3 h.small,by rw[l1];exact h.ents,by rw[l1];exact h.taken⟩
section
variable {B:Nat} {fs:FileN} {f:FnU} {vp vb:Value} {w w1 wx wy w':World} {rb c mb mt c2 mb2 mt2:Nat} {p ov sv sv' sv2:Value} {up:List ScN} {s s2:ScN} {r r' r2:ResN}
theorem Stg.refl (h:VisM B fs f vp vb w rb c mb mt p ov sv up s r):Stg B fs f vp vb w w w rb c mb mt p ov sv sv up s r:=
 ⟨h,zv3 _ _,KeepU.refl _ _,zv0 _,fun _ e=>.inl e⟩
theorem Stg.visit (h:Stg B fs f vp vb w w1 wx rb c mb mt p ov sv sv' up s r)(g:Stg B fs f vp vb wx wx wy rb c mb mt p ov sv' sv2 up s2 r2):Stg B fs f vp vb w w1 wy rb c mb mt p ov sv sv2 up s2 r2:=by
 refine⟨g.vis,h.below.trans g.below,fun k hk hT=>(g.keep k (zv5 hk h.size) (fun hT'=>?_)).trans (h.keep k hk hT),zv6 h.size g.size,fun k e=>?_⟩
 ·rcases hT' with e|e|e|e|e
  ·exact hT (.inl e)
  ·exact hT (.inr (.inl e))
  ·exact hT (.inr (.inr (.inl e)))
  ·rcases h.moved k e with e|e
   ·exact hT (.inr (.inr (.inr (.inl e))))
   ·omega
  ·exact hT (.inr (.inr (.inr (.inr e))))
 ·rcases g.moved k e with e|e
  ·exact h.moved k e
  ·exact .inr (zv6 h.size e)
theorem Stg.ahead (hb:Below w.heap.size w w1)(g:Stg B fs f vp vb w w1 wx rb c mb mt p ov sv sv' up s r):Stg B fs f vp vb w w wx rb c mb mt p ov sv sv' up s r:=
 ⟨g.vis,g.below,fun k hk hT=>(g.keep k (zv5 hk hb.size) hT).trans (hb.block k hk),zv6 hb.size g.size,fun k e=>(g.moved k e).imp id (fun h=>zv6 hb.size h)⟩
theorem Stg.joins (hB:B≤w.heap.size)(hb:Below w.heap.size w w1)(g:Stg B fs f vp vb w1 w1 wx rb c mb mt p ov sv sv' up s r):Stg B fs f vp vb w w wx rb c mb mt p ov sv sv' up s r:=
 ⟨g.vis,(hb.mono hB).trans g.below,fun k hk hT=>(g.keep k (zv5 hk hb.size) hT).trans (hb.block k hk),zv6 hb.size g.size,fun k e=>(g.moved k e).imp id (fun h=>zv6 hb.size h)⟩
theorem VisM.full (h:VisM B fs f vp vb w rb c mb mt p ov sv up s r):ChainM fs (fun k=>k<w.heap.size) w (s :: up) (.pointer (some ⟨c,0,none⟩)):=
 ⟨c,mb,mt,_,p,rfl,h.free.1,h.sc.ents.lt,h.sc.blk,h.sc.ents,h.chain.keep fun _ hk=>⟨rfl,hk.1⟩⟩
theorem VisM.inner (h:VisM B fs f vp vb w rb c mb mt p ov sv up s r)(hs:ScM w.heap.size w1 c2 mb2 mt2 (.pointer (some ⟨c,0,none⟩)) ScN.new)(hb:Below w.heap.size w w1):VisM B fs f vp vb w1 rb c2 mb2 mt2 (.pointer (some ⟨c,0,none⟩)) ov sv (s :: up) ScN.new r:=by
 have hrl:=h.res.lt;have hBl:=h.res.base;have hm2:=h.sc.ents.lt;have ht2:=h.sc.taken.lt;obtain⟨b1,b2,b3⟩:=hs.base;have hso:∀k,sv.ownBlock=some k→k<w.heap.size:=fun k e=>zbG h.res.slots e
 have hoo:∀k,ov.ownBlock=some k→k<w.heap.size:=fun k e=>zbG h.res.out e
 have hfree:∀k,zo0 w rb mb mt sv ov k→zo0 w1 rb mb2 mt2 sv ov k:=fun k ⟨h1,h2⟩=>⟨zv5 h1 hb.size,fun hT=>by
  rcases hT with e|e|e|e|e
  ·exact h2 (.inl e)
  ·omega
  ·omega
  ·exact h2 (.inr (.inr (.inr (.inl e))))
  ·exact h2 (.inr (.inr (.inr (.inr e))))⟩
 have hcl:=hfree c h.free;refine⟨h.res.below hb,⟨hs.blk,hs.ents,hs.taken,⟨by omega,by omega,by omega⟩,hs.ne⟩,⟨c,mb,mt,_,p,rfl,hcl,⟨zv5 hm2 hb.size,fun hT=>?_⟩,(hb.block c h.free.1).trans h.sc.blk,h.sc.ents.below hb,h.chain.keep fun k hk=>⟨hb.block k hk.1,hfree k hk⟩⟩,⟨zaa hs.blk,fun hT=>?_⟩,⟨by omega,by omega⟩,fun k e=>?_,fun k e=>?_⟩
 ·rcases hT with e|e|e|e|e
  ·exact h.apart.1.1 e.symm
  ·omega
  ·omega
  ·exact(h.apart.2.1 mb e).1 rfl
  ·exact(h.apart.2.2 mb e).1 rfl
 ·rcases hT with e|e|e|e|e
  ·omega
  ·exact hs.ne.1 e
  ·exact hs.ne.2.1 e
  ·have:=hso _ e;omega
  ·have:=hoo _ e;omega
 ·have:=hso _ e
  exact⟨by omega,by omega⟩
 ·have:=hoo _ e
  exact⟨by omega,by omega⟩
theorem VisM.outer (h:VisM B fs f vp vb w rb c mb mt p ov sv up s r)(hs:ScM w.heap.size w1 c2 mb2 mt2 (.pointer (some ⟨c,0,none⟩)) ScN.new)(hb:Below w.heap.size w w1)(g:Stg B fs f vp vb w1 w1 wx rb c2 mb2 mt2 (.pointer (some ⟨c,0,none⟩)) ov sv sv' (s :: up) s2 r2):Stg B fs f vp vb w w wx rb c mb mt p ov sv sv' up s r2:=by
 obtain⟨b1,b2,b3⟩:=hs.base
 have hk:∀k,k<w.heap.size→k≠rb→sv.ownBlock≠some k→ov.ownBlock≠some k→wx.heap[k]?=w.heap[k]?:=fun k h1 h2 h3 h4=>(g.keep k (zv5 h1 hb.size) (fun hT=>by
  rcases hT with e|e|e|e|e
  ·exact h2 e
  ·omega
  ·omega
  ·exact h3 e
  ·exact h4 e)).trans (hb.block k h1)
 have hBl:=h.res.base;have hrl:=h.res.lt;have hm:=h.sc.ents.lt;have ht:=h.sc.taken.lt;refine⟨h.next (fun k h1 hT=>hk k h1 (fun e=>hT (.inl e)) (fun e=>hT (.inr (.inr (.inr (.inl e))))) (fun e=>hT (.inr (.inr (.inr (.inr e)))))) (zv6 hb.size g.size) (fun k e=>(g.moved k e).imp id (fun h=>zv6 hb.size h)) g.vis.res (h.sc.ents.move (hk mb hm (fun e=>h.apart.1.1 e.symm) (fun e=>(h.apart.2.1 mb e).1 rfl) (fun e=>(h.apart.2.2 mb e).1 rfl))) (h.sc.taken.move (hk mt ht (fun e=>h.apart.1.2 e.symm) (fun e=>(h.apart.2.1 mt e).2 rfl) (fun e=>(h.apart.2.2 mt e).2 rfl))),(hb.mono (by omega)).trans g.below,fun k h1 hT=>hk k h1 (fun e=>hT (.inl e)) (fun e=>hT (.inr (.inr (.inr (.inl e))))) (fun e=>hT (.inr (.inr (.inr (.inr e))))),zv6 hb.size g.size,fun k e=>(g.moved k e).imp id (fun h=>zv6 hb.size h)⟩
theorem zkM {α:Type}{cells:α→List Value}(hk:∀a,(cells a).length=3){q:α}{a0 a1 a2:Value}(hq:cells q=[a0,a1,a2]):∀(L:List α) (i:Nat),i<L.length →
 ((((L.flatMap cells).set (i*3) a0).set (i*3+1) a1).set (i*3+2) a2)=(L.set i q).flatMap cells
 | [],i,h=>by simp at h
 | y :: r,0,_=>by
   have:=hk y;rw[List.set_cons_zero,List.flatMap_cons,List.flatMap_cons,hq];rcases hc:cells y with _|⟨b0,_|⟨b1,_|⟨b2,_|⟨b3,c⟩⟩⟩⟩<;>rw[hc]at this<;>simp at this
   rfl
 | y :: r,i+1,h=>by
   have h3:=hk y;have ih:=zkM hk hq r i (by simpa using h);have e:∀j,(i+1)*3+j=(cells y).length+(i*3+j):=fun j=>by rw[h3];omega
   have e0:(i+1)*3=(cells y).length+(i*3):=by rw[h3];omega
   rw[List.set_cons_succ,List.flatMap_cons,List.flatMap_cons,e,e,e0,← ih];have key:∀(Z:List Value) (j:Nat) (u:Value),(cells y++Z).set ((cells y).length+j) u=cells y++Z.set j u:=fun Z j u=>by
    rw[List.set_append_right _ _ (by omega)]
    congr 2
    omega
   rw[key,key,key]
theorem ResM.put {g n cap k:Nat}{b:Bnd}(h:ResM B wx rb f vp vb sv (.slice (some ⟨g,0,none⟩) n cap) r)(hn:r.out.length=n)(hk:k<n):ResM B (((wx.setCell ⟨g,k*3,none⟩ (.int .i64 b.kind)).setCell ⟨g,k*3+1,none⟩ (.int .i64 b.idx)).setCell ⟨g,k*3+2,none⟩ (.string b.type)) rb f vp vb sv (.slice (some ⟨g,0,none⟩) n cap) (r.put k b):=by
 subst hn;have hg:g≠rb:=h.apart.2 g rfl;have hsg:sv.ownBlock≠some g:=fun e=>(h.apart.1 g e).2 rfl
 refine⟨?_,zai (zai (zai h.slots _ _ hsg) _ _ hsg) _ _ hsg,?_,h.base,h.apart⟩
 ·rw[Below.heap_setCell _ _ _ _ (by simpa using Ne.symm hg),Below.heap_setCell _ _ _ _ (by simpa using Ne.symm hg),Below.heap_setCell _ _ _ _ (by simpa using Ne.symm hg)]
  exact h.blk
 ·have:=zci (c:=k*3+2) (u:=.string b.type) (zci (c:=k*3+1) (u:=.int .i64 b.idx) (zci (c:=k*3) (u:=.int .i64 b.kind) h.out))
  rw[zkM zeZ (q:=b) rfl r.out k hk]at this;have hl:(r.put k b).out.length=r.out.length:=List.length_set;rw[hl];exact this
theorem Stg.put {g n cap k:Nat}{b:Bnd}(h:Stg B fs f vp vb w w1 wx rb c mb mt p (.slice (some ⟨g,0,none⟩) n cap) sv sv' up s r)(hn:r.out.length=n)(hk:k<n):Stg B fs f vp vb w w1 (((wx.setCell ⟨g,k*3,none⟩ (.int .i64 b.kind)).setCell ⟨g,k*3+1,none⟩ (.int .i64 b.idx)).setCell ⟨g,k*3+2,none⟩ (.string b.type)) rb c mb mt p (.slice (some ⟨g,0,none⟩) n cap) sv sv' up s (r.put k b):=by
 have hv:=h.vis;have hr:=hv.res.put hn hk (b:=b);have hgB:B≤g:=(hv.res.out.lt g rfl).1;have hke:∀j,j≠g→(((wx.setCell ⟨g,k*3,none⟩ (.int .i64 b.kind)).setCell ⟨g,k*3+1,none⟩ (.int .i64 b.idx)).setCell ⟨g,k*3+2,none⟩ (.string b.type)).heap[j]?=wx.heap[j]?:=fun j hj=>by
  rw[Below.heap_setCell _ _ _ _ (by simpa using hj),Below.heap_setCell _ _ _ _ (by simpa using hj),Below.heap_setCell _ _ _ _ (by simpa using hj)]
 have hmb:=(hv.apart.2.2 g rfl)
 have hT:∀j,¬VisT rb mb mt sv' (.slice (some ⟨g,0,none⟩) n cap) j→j≠g:=fun j hj e=>hj (.inr (.inr (.inr (.inr (by rw[e];rfl)))))
 have hT2:∀j,¬VisT rb mb mt sv (.slice (some ⟨g,0,none⟩) n cap) j→j≠g:=fun j hj e=>hj (.inr (.inr (.inr (.inr (by rw[e];rfl)))))
 refine⟨hv.next (fun j _ hj=>hke j (hT j hj)) (by simp) (fun _ e=>.inl e) hr (hv.sc.ents.move (hke _ (Ne.symm hmb.1))) (hv.sc.taken.move (hke _ (Ne.symm hmb.2))),h.below.trans ((((zv3 B wx).setCell (p:=⟨g,k*3,none⟩) hgB _).setCell (p:=⟨g,k*3+1,none⟩) hgB _).setCell (p:=⟨g,k*3+2,none⟩) hgB _),fun j hj hj2=>(hke j (hT2 j hj2)).trans (h.keep j hj hj2),by simpa using h.size,h.moved⟩
def zrw (B:Nat)(fs:FileN)(f:FnU)(vp vb:Value)(rb c mb mt:Nat)(p ov sv:Value)(up:List ScN)(w:World)(q:ResN × ScN)(e:Ending)(w':World):Prop:=e=.returned (.tuple #[])∧∃sv',Stg B fs f vp vb w w w' rb c mb mt p ov sv sv' up q.2 q.1
theorem zgD {t:List Nd}{fr:List Nat}(ps:List Nat)(i:Nat)(hi:i<ps.length)(up:List ScN)(s:ScN)(r:ResN):visitsN t fr fs (ps.take (i+1)) up s r=visitN t fr fs ps[i] up (visitsN t fr fs (ps.take i) up s r).2 false (visitsN t fr fs (ps.take i) up s r).1:=by
 rw[List.take_succ_eq_append_getElem hi,zc3,visitsN,visitsN]
end
set_option maxHeartbeats 8000000
def zmm (A B rb:Nat)(fs:FileN)(f:FnU)(vp:Value)(ab:Option Addr)(cb:Nat)(fr:List Nat)(k:Nat):Prop:=∀(w:World) (c mb mt:Nat) (p ov sv:Value) (up:List ScN) (s:ScN) (own:Bool) (r:ResN),VisM B fs f vp (.slice ab f.body.length cb) w rb c mb mt p ov sv up s r→zaV A w ab f.body→RoomV s r→r.out.length=f.body.length →
 Calls Tryz.prog 44 #[.pointer (some ⟨rb,0,none⟩),.int .i64 (k:Int),.pointer (some ⟨c,0,none⟩),.bool own] w (zrw B fs f vp (.slice ab f.body.length cb) rb c mb mt p ov sv up w (visitN f.body fr fs k up s own r))
def CutV (B:Nat)(fs:FileN)(f:FnU)(vp vb:Value)(rb c mb mt:Nat)(p ov sv:Value)(up:List ScN)(fr ps:List Nat)(w:World)(q:ResN × ScN)(v2:Value)(wx:World):Prop:=
 ∃(c2 mb2 mt2:Nat) (p2 sv2:Value) (up2:List ScN) (s2:ScN) (r2:ResN),v2=.pointer (some ⟨c2,0,none⟩)∧VisM B fs f vp vb wx rb c2 mb2 mt2 p2 ov sv2 up2 s2 r2∧RoomV s2 r2∧r2.out.length=f.body.length∧Below B w wx ∧
  ∀wy sv3,Stg B fs f vp vb wx wx wy rb c2 mb2 mt2 p2 ov sv2 sv3 up2 (visitsN f.body fr fs ps up2 s2 r2).2 (visitsN f.body fr fs ps up2 s2 r2).1→∃sv4,Stg B fs f vp vb w w wy rb c mb mt p ov sv sv4 up q.2 q.1
section
variable {B:Nat} {fs:FileN} {f:FnU} {vp vb:Value} {w w1 wx:World} {rb c mb mt c2 mb2 mt2:Nat} {p ov sv sv':Value} {up:List ScN} {s:ScN} {r r2:ResN} {fr ps:List Nat} {q:ResN × ScN}
theorem zmc (hS:Stg B fs f vp vb w w wx rb c mb mt p ov sv sv' up s r2)(hR:RoomV s r2)(hl:r2.out.length=f.body.length)(hq:q=visitsN f.body fr fs ps up s r2):CutV B fs f vp vb rb c mb mt p ov sv up fr ps w q (.pointer (some ⟨c,0,none⟩)) wx:=
 ⟨c,mb,mt,p,sv',up,s,r2,rfl,hS.vis,hR,hl,hS.below,fun wy sv3 g=>⟨sv3,by rw[hq];exact hS.visit g⟩⟩
theorem zra (hB:B≤w.heap.size)(hb:Below w.heap.size w w1)(h:VisM B fs f vp vb w1 rb c mb mt p ov sv up s r)(hs:ScM w1.heap.size wx c2 mb2 mt2 (.pointer (some ⟨c,0,none⟩)) ScN.new)(hb2:Below w1.heap.size w1 wx)(hR:RoomV s r)(hl:r.out.length=f.body.length)(hq:q=((visitsN f.body fr fs ps (s :: up) ScN.new r).1,s)):CutV B fs f vp vb rb c mb mt p ov sv up fr ps w q (.pointer (some ⟨c2,0,none⟩)) wx:=
 ⟨c2,mb2,mt2,_,sv,s :: up,ScN.new,r,rfl,h.inner hs hb2,hR.new,hl,(hb.mono hB).trans (hb2.mono (zv6 hB hb.size)),fun wy sv3 g=>⟨sv3,by rw[hq];exact(h.outer hs hb2 g).joins hB hb⟩⟩
end
def RowAt (base:Nat)(w1:World)(pa:Option Addr)(ps:List Nat):Prop:=∀(i:Nat) (hi:i<ps.length),∃b off,pa=some ⟨b,off,none⟩∧base≤b∧b<w1.heap.size∧w1.cell? ⟨b,off+i,none⟩=some (.int .i64 (ps[i]:Int))
theorem ze4 {w1:World}{base:Nat}{v:Value}{ps:List Nat}(h:NatRow w1 base v ps):∃pa pc,v=.slice pa ps.length pc∧RowAt base w1 pa ps:=by
 have hfar:=zeQ h;obtain⟨pa,pc,rfl,hN,_⟩:=h.is;refine⟨pa,pc,rfl,fun i hi=>?_⟩;obtain⟨b,off,hpa,hb,hc⟩:=zbY hN hi;subst hpa;exact⟨b,off,rfl,hfar _ _ _ _ rfl (by omega),hb,hc⟩
theorem znE {A B rb:Nat}{fs:FileN}{f:FnU}{vp:Value}{ab:Option Addr}{cb:Nat}{fr:List Nat}(hbg:zah f.body=some fr)(hl:f.body.length≤4096)(hT:∀x ∈ f.body,x.kind=3∨x.kind=22→x.text.size≤maxLen)(hAB:A≤B)(k:Nat)(hk:k<f.body.length)(ih:∀p,p<k→zmm A B rb fs f vp ab cb fr p)
 (w:World) (c mb mt:Nat) (p ov sv:Value) (up:List ScN) (s:ScN) (own:Bool) (r:ResN) (h:VisM B fs f vp (.slice ab f.body.length cb) w rb c mb mt p ov sv up s r) (hI:zaV A w ab f.body) (hR:RoomV s r) (hout:r.out.length=f.body.length) (hr0:r.fault.2=0) (h22:(f.body.getD k ndU0).kind≠22) :
 Calls Tryz.prog 44 #[.pointer (some ⟨rb,0,none⟩),.int .i64 (k:Int),.pointer (some ⟨c,0,none⟩),.bool own] w (zrw B fs f vp (.slice ab f.body.length cb) rb c mb mt p ov sv up w (visitN f.body fr fs k up s own r)):=by
 have hBw:B≤w.heap.size:=by have:=h.res.base;have:=h.res.lt;omega
 have hv:=zc9 (fs:=fs) (zar hbg) k up s own r;rw[if_neg (show ¬r.fault.2≠0 by simp[hr0]),if_neg h22]at hv;have hps:∀q ∈ partsAt f.body fr k,q<k:=fun q hq=>(zar hbg).parts_lt hq
 have hpl:(partsAt f.body fr k).length≤4096:=by
  rw[zan (zv1 hk),zak];have:=((zar hbg).node k _ (zv1 hk)).2.1.le;omega
 have HPt:=Hd (fun (w1:World) (h1:rb<w1.heap.size) (h2:A≤w1.heap.size) (h3:w1.cell? ⟨rb,4,none⟩=some (.slice ab f.body.length cb)) (h4:zaV A w1 ab f.body)=>zh9 hbg k hk hl w1 h1 h2 h3 h4);have HIh:=Hd ih;obtain⟨⟨k0,k1,k2,k3,k4,k5,k6,k7,k8⟩,_⟩:=zao h.res.blk;rw[hr0]at k8;obtain⟨ba,off,ha,hbl,x0,x1,x2,x3,x4,x5⟩:=zbg hI hk;have hx:f.body.getD k ndU0=f.body[k]:=by simp[List.getD,hk]
 have hxo:=hT _ (zwb hk);rw[hx]at hv h22;clear hx;generalize f.body[k]=x at *;obtain⟨xk,xn,xa,xi,xt,xy⟩:=x;simp only at *;subst ha;have hb1:=ba1 w (.cells #[.int .i64 xk,.int .i64 xn,.int .i64 xa,.int .i64 xi,.string xt,.string xy] 47);have hq1:=zv8 w (.cells #[.int .i64 xk,.int .i64 xn,.int .i64 xa,.int .i64 xi,.string xt,.string xy] 47);have HV:=Hd h;have HI:=Hd hI;have HR:=Hd hR;have HO:=Hd hout;have HVi:=Hd hv;have HPs:=Hd hps;have HXo:=Hd hxo;clear h hI hR hout hv hps ih hT hbg hxo
 go_enter Tryz.func44,Tryz.ntmps44
 go_upto_block 0 with fail
 generalize w.alloc (.cells #[.int .i64 xk,.int .i64 xn,.int .i64 xa,.int .i64 xi,.string xt,.string xy] 47)=w1 at *;have HV1:=Hd (HV.out.below hb1);have HB1:=Hd hb1;have HQ1:=Hd hq1;obtain⟨⟨y0,y1,y2,y3,y4,y5⟩,_⟩:=zal hq1;clear hb1 hq1 k0 k1 k2 k3 k4 k5 k6 k7 k8 x0 x1 x2 x3 x4 x5;have hmv:w.heap.size<w1.heap.size:=zaa HQ1.out
 go_cut [2] (fun v2 wx=>Hid (CutV B fs f vp (.slice (some ⟨ba,off,none⟩) f.body.length cb) rb c mb mt p ov sv up fr (partsAt f.body fr k) w (visitN f.body fr fs k up s own r) v2 wx))
 case first=>
  by_cases h3:xk=3
  ·subst h3
   have hop:zcb ⟨3,xn,xa,xi,xt,xy⟩ own=false:=by unfold zcb;simp
   rw[hop]at HVi;have hF:=zqU xt w1 HV1.out.full (fun _ hk=>hk) (HXo.out (.inl rfl));have hov:=HV1.out.res.out;rw[HO.out]at hov;obtain⟨g,cap,rfl,hgB,hgl,hcn,hcm,hgc,hgf⟩:=zax zeZ hov HO.out.symm (i:=k) (by rw[HO.out];exact hk);clear hov;rcases hfc:zd9 fs (s :: up) xt with _|b
   ·rw[hfc]at hF
    have HF:=Hd (show Calls Tryz.prog 64 #[.pointer (some ⟨c,0,none⟩),.string xt] w1 (fun e w'=>e=.returned (.tuple #[.agg #[.int .i64 0,.int .i64 0,.string ⟨#[]⟩],.bool false])∧Below w1.heap.size w1 w') from hF);have HNm:=Hd (show zbZ fs (s :: up) ⟨3,xn,xa,xi,xt,xy⟩ k r=(r.wrong xa 130).put k bnd0 by unfold zbZ;rw[if_pos rfl,hfc]);have HWr:=Hd (fun w2 (h:ResM B w2 rb f vp (.slice (some ⟨ba,off,none⟩) f.body.length cb) sv (.slice (some ⟨g,0,none⟩) f.body.length cap) r)=>zfq xa 130 w2 h);clear hF hfc
    go_upto_region 7 with (first
     | (go_at_call 64;(with_reducible refine HF.out.mono ?_);rintro e w2 ⟨rfl,hb2⟩;have hz12:=hb2.size;have HB2:=Hd (hb2.alloc hb2.size (.cells #[.int .i64 0,.int .i64 0,.string ⟨#[]⟩] 78));clear hb2;obtain⟨⟨y0,y1,y2,y3,y4,y5⟩,_⟩:=zal ((HB2.out.block _ (zaa HQ1.out)).trans HQ1.out))
     | (go_at_call 63;(refine(HWr.out _ (HV1.out.below HB2.out).res).mono ?_);rintro e w3 ⟨rfl,hr3,hb3,hk3,hz3⟩))
    have HS3:=Hd ((((Stg.refl HV.out).next HB1.out).next HB2.out).rest hr3 hb3 hk3 (Nat.le_of_eq hz3.symm));have hz2:=zv8 w2 (.cells #[.int .i64 0,.int .i64 0,.string ⟨#[]⟩] 78);have hlz:=zaa hz2;obtain⟨⟨z0,z1,z2⟩,_⟩:=zac ((hk3 _ hlz (by show w2.heap.size≠rb;have:=HV1.out.res.lt;omega)).trans hz2);obtain⟨⟨k0,k1,k2,k3,k4,k5,k6,k7,k8⟩,_⟩:=zao hr3.blk;have ho3:=hr3.out;rw[(zbC r xa 130).2,HO.out]at ho3;obtain⟨g3,cap3,hg3,_,_,_,_,hgc3,hgf3⟩:=zax zeZ ho3 HO.out.symm (i:=k) (by rw[HO.out];exact hk);obtain⟨rfl,_,rfl⟩:g=g3∧f.body.length=f.body.length∧cap=cap3:=by simpa using hg3
    have c0:=hgc3 0 _ rfl;have c1:=hgc3 1 _ rfl;have c2:=hgc3 2 _ rfl;have f0:=hgf3 (k*3);have f1:=hgf3 (k*3+1);have f2:=hgf3 (k*3+2);rw[Nat.add_zero]at c0;clear k0 k1 k2 k3 k4 k5 k7 k8 hr3 hb3 hk3 hz3 hgc3 hgf3 hz2 hg3 hlz ho3 hz12
    go_region_law (fail)
    all_goals
     go_wp2_with fail
     go_meet
     exact Hd (zmc ((HS3.out.put (b:=bnd0) ((congrArg List.length (zbC r xa 130).2).trans HO.out) hk).next (zv3 _ _).drew) (HNm.out▸HR.out.name) (by show ((r.wrong xa 130).out.set k _).length=_;rw[List.length_set,(zbC r xa 130).2];exact HO.out) (by rw[HVi.out,if_neg (by decide),HNm.out]))
   ·obtain⟨bk,bi,bt⟩:=b
    rw[hfc]at hF;have HF:=Hd (show Calls Tryz.prog 64 #[.pointer (some ⟨c,0,none⟩),.string xt] w1 (fun e w'=>e=.returned (.tuple #[.agg #[.int .i64 bk,.int .i64 bi,.string bt],.bool true])∧Below w1.heap.size w1 w') from hF);have HNm:=Hd (show zbZ fs (s :: up) ⟨3,xn,xa,xi,xt,xy⟩ k r=r.put k ⟨bk,bi,bt⟩ by unfold zbZ;rw[if_pos rfl,hfc]);clear hF hfc
    go_upto_region 7 with (go_at_call 64;(with_reducible refine HF.out.mono ?_);rintro e w2 ⟨rfl,hb2⟩;have HB2:=Hd (hb2.alloc hb2.size (.cells #[.int .i64 bk,.int .i64 bi,.string bt] 78));clear hb2)
    obtain⟨⟨z0,z1,z2⟩,_⟩:=zac (zv8 w2 (.cells #[.int .i64 bk,.int .i64 bi,.string bt] 78));generalize w2.alloc (.cells #[.int .i64 bk,.int .i64 bi,.string bt] 78)=w3 at *;have HV3:=Hd (HV1.out.below HB2.out);obtain⟨⟨k0,k1,k2,k3,k4,k5,k6,k7,k8⟩,_⟩:=zao HV3.out.res.blk;clear k0 k1 k2 k3 k4 k5 k7 k8;have c0:=(HB2.out.cell (p:=⟨g,k*3+0,none⟩) hgl).trans (hgc 0 _ rfl);have c1:=(HB2.out.cell (p:=⟨g,k*3+1,none⟩) hgl).trans (hgc 1 _ rfl);have c2:=(HB2.out.cell (p:=⟨g,k*3+2,none⟩) hgl).trans (hgc 2 _ rfl);have f0:=(HB2.out.frozen (p:=⟨g,k*3+0,none⟩) hgl).trans (hgf _);have f1:=(HB2.out.frozen (p:=⟨g,k*3+1,none⟩) hgl).trans (hgf _);have f2:=(HB2.out.frozen (p:=⟨g,k*3+2,none⟩) hgl).trans (hgf _);rw[Nat.add_zero]at c0 f0
    go_region_law (fail)
    all_goals
     go_wp2_with fail
     go_meet
     exact Hd (zmc (((((Stg.refl HV.out).next HB1.out).next HB2.out).put (b:=⟨bk,bi,bt⟩) HO.out hk).next (zv3 _ _).drew) (HNm.out▸HR.out.name) (by show (r.out.set k _).length=_;rw[List.length_set];exact HO.out) (by rw[HVi.out,if_neg (by decide),HNm.out]))
  ·have HNm:=Hd (show zbZ fs (s :: up) ⟨xk,xn,xa,xi,xt,xy⟩ k r=r by unfold zbZ;rw[if_neg h3])
   rw[HNm.out]at HVi;have HWi:=Hd (zgB (some ⟨c,0,none⟩) w1)
   by_cases hop:zcb ⟨xk,xn,xa,xi,xt,xy⟩ own=true
   ·rw[if_pos hop]at HVi
    have hop2:(xk=21∧own=false)∨xk=26:=by
     unfold zcb at hop;simpa using hop
    rcases hop2 with ⟨rfl,rfl⟩|rfl
    ·go_wp2_with (go_at_call 42;(with_reducible refine HWi.out.mono ?_);rintro e w2 ⟨rfl,hs2,hb2,hz2⟩;have HS2:=Hd hs2;have HB2:=Hd hb2;clear hs2 hb2 hz2)
     go_meet
     exact Hd (zra hBw HB1.out HV1.out HS2.out HB2.out HR.out HO.out HVi.out)
    ·go_wp2_with (go_at_call 42;(with_reducible refine HWi.out.mono ?_);rintro e w2 ⟨rfl,hs2,hb2,hz2⟩;have HS2:=Hd hs2;have HB2:=Hd hb2;clear hs2 hb2 hz2)
     go_meet
     exact Hd (zra hBw HB1.out HV1.out HS2.out HB2.out HR.out HO.out HVi.out)
   ·rw[if_neg hop]at HVi
    have h26:xk≠26:=fun e=>hop (by unfold zcb;simp[e])
    have hend:=Hd (show CutV B fs f vp (.slice (some ⟨ba,off,none⟩) f.body.length cb) rb c mb mt p ov sv up fr (partsAt f.body fr k) w (visitN f.body fr fs k up s own r) (.pointer (some ⟨c,0,none⟩)) w1 from zmc ((Stg.refl HV.out).next HB1.out) HR.out HO.out HVi.out)
    by_cases h21:xk=21
    ·subst h21
     obtain rfl:own=true:=by
      cases own
      ·exact absurd (by unfold zcb;simp) hop
      ·rfl
     go_wp2_with fail
     go_meet
     exact hend
    ·go_wp2_with fail
     go_meet
     exact hend
 case rest=>
  obtain⟨c2,mb2,mt2,p2,sv2,up2,s2,r2,rfl,hv2,hR2,hl2,hb2,hfin⟩:=hcut.out;clear hcut y0 y1 y2 y3 y4 y5 HVi HO HR;have hAw:A≤wc.heap.size:=by have:=hv2.res.base;have:=hv2.res.lt;omega
  have HP:=Hd (HPt.out wc hv2.res.lt hAw (zao hv2.res.blk).1.2.2.2.2.1 (HI.out.below hb2 hAB));have HV2:=Hd hv2;have HR2:=Hd hR2;have HL2:=Hd hl2;have HB2:=Hd hb2;have HFin:=Hd hfin;clear hv2 hR2 hl2 hb2 hfin;generalize partsAt f.body fr k=ps at *
  go_wp2_with (go_at_call 65;(with_reducible refine HP.out.mono ?_);rintro e w6 ⟨⟨v,rfl,hrow⟩,hb6⟩;obtain⟨pa,pc,rfl,hrw⟩:=ze4 hrow;have HRw:=Hd hrw;have HB6:=Hd hb6;clear hrow hb6 hrw)
  have HS0:=Hd (show Stg B fs f vp (.slice (some ⟨ba,off,none⟩) f.body.length cb) wc w6 w6 rb c2 mb2 mt2 p2 ov sv2 sv2 up2 s2 r2 from ⟨HV2.out.below HB6.out,HB6.out.mono (by have:=HV2.out.res.base;have:=HV2.out.res.lt;omega),KeepU.refl _ _,zv0 _,fun _ e=>.inl e⟩)
  go_loopg [111] ps.length (fun m v111 wy=>∃(i:Nat) (sv3:Value),m=ps.length-i∧i≤ps.length∧v111=.int .i64 (i:Int)∧Hid (Stg B fs f vp (.slice (some ⟨ba,off,none⟩) f.body.length cb) wc w6 wy rb c2 mb2 mt2 p2 ov sv2 sv3 up2 (visitsN f.body fr fs (ps.take i) up2 s2 r2).2 (visitsN f.body fr fs (ps.take i) up2 s2 r2).1))
  case atStart=>exact⟨0,sv2,by omega,Nat.zero_le _,rfl,HS0⟩
  case round=>
   obtain⟨i,sv3,hm,hi,rfl,HS⟩:=hrel
   by_cases hlt:i<ps.length
   ·obtain⟨pb,po,rfl,hpb,hpl6,hpc⟩:=HRw.out i hlt
    have hkp:=(HS.out.keep pb hpl6 (fun hT=>by
     have h1:=HV2.out;rcases hT with e|e|e|e|e
     ·have:=h1.res.lt;omega
     ·have:=h1.sc.ents.lt;omega
     ·have:=h1.sc.taken.lt;omega
     ·have:=zbG h1.res.slots e;omega
     ·have:=zbG h1.res.out e;omega))
    have hpc:=(World.cell?_of_block (a:=⟨pb,po+i,none⟩) hkp).trans hpc;have hpk:=HPs.out ps[i] (zwb hlt);have HNx:=Hd (zgD (t:=f.body) (fr:=fr) (fs:=fs) ps i hlt up2 s2 r2);have hgr:=zi8 (t:=f.body) (fr:=fr) (fs:=fs) (ps.take i) up2 s2 r2;generalize visitsN f.body fr fs (ps.take i) up2 s2 r2=q at *;have HC:=Hd (HIh.out _ hpk wr c2 mb2 mt2 p2 ov sv3 up2 q.2 false q.1 HS.out.vis (HI.out.below (HB2.out.trans HS.out.below) hAB) (HR2.out.grow hgr) (hgr.2.2.2.1.trans HL2.out));generalize ps[i]=pi at *;clear hkp hgr
    go_wp2_with (go_at_call 44;(with_reducible refine HC.out.mono ?_);rintro e w7 ⟨rfl,sv4,hs4⟩;have HS4:=Hd (HS.out.visit hs4);clear hs4)
    go_roundg (ps.length-(i+1))
    case measure=>omega
    case rel=>exact⟨i+1,sv4,rfl,hlt,by go_num,Hd (by rw[HNx.out];exact HS4.out)⟩
   ·obtain rfl:i=ps.length:=by omega
    rw[List.take_length]at HS
    go_wp2_with fail
    refine bodyPost_end (results_none rfl _ _ _) rfl ⟨rfl,?_⟩;exact HFin.out wr sv3 (HS.out.ahead HB6.out)
end Go.Proofs.YtbbaooeioogijaaGreatDoor
