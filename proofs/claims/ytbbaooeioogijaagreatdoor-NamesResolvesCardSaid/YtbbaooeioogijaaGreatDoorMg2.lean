/- A region that draws its order and begins with a call that wr -/
import Derived.RegionTactic
import Derived.Test.YtbbaooeioogijaaGreatDoorRead2
import Derived.Laws.AppendOwn
import Derived.Laws.OwnMore
import Derived.Test.YtbbaooeioogijaaGreatDoorRows
import Derived.Lib.LaidTab
import Derived.OpenShut
import Derived.LaidLaws
import Derived.Deep.Slices
import Derived.ProofKit
import Derived.SizedLaws
import Derived.IntWalk
namespace Go
open Go.RowKit
theorem zfs {P:Program}{md:Region.Mode}{ops:Array Oper}{Q:Exit→Act→World→Prop}{fuel:Nat}{listed:Array Bool}{a:Act}{w:World}(k:Nat)(l:List Oper)(hl:ops.toList.drop k=l)(hn:l.length=fuel)
 (hns:Region.noSelect ops=true) (hB:Region.lexFrom md ops l.length k listed=true)
 (h:wpQuiet P ops (fun w'=>∃n,w'=w.drewN n) (fun a'=>∀w',(∃n,w'=w.drewN n)→Q .normal a' w') l a):wpAny P md ops Q fuel listed a w:=by
 subst hn;refine wpAny_of_quiet (C:=fun w'=>∃n,w'=w.drewN n) (Q:=fun a'=>∀w',(∃n,w'=w.drewN n)→Q .normal a' w') (fun _ w' hw' h=>h w' hw') _ _ _ _ ⟨0,rfl⟩ ?_;refine wpAnyQ_lex hns l k listed a (fun j=>?_) hB h;rw[← hl,List.getElem?_drop,Array.getElem?_toList]
end Go
namespace Go.Proofs.YtbbaooeioogijaaGreatDoor
open Go.RowKit
set_option maxRecDepth 100000
set_option maxHeartbeats 1000000
set_option maxHeartbeats 4000000
def zce (s:ByteArray):Nat:=match tyS s with
 | some t=>zaS t
 | none=>0
theorem zvh {s:ByteArray}(hs:s.size≤65536):tyS s=(tyF (2*s.size+1) (sfx s 0)).bind fun q=>if q.2=[] then some q.1 else none:=by
 unfold tyS;rw[if_pos hs,tyE];have:s.data.toList.length=s.size:=by rw[Array.length_toList];rfl
 rw[this];simp[sfx]
theorem zhy {w w1 w4:World}{b:Nat}(h:Below w.heap.size w w1)(hg:w1.drew.grownBy w4 (some b))(hb:w.heap.size≤b:=by exact zv0 _):Below w.heap.size w w4:=
 h.trans (zcM (zae (zay (zaK w1 _) 1) hg) hb h.size)
theorem zsb (s:ByteArray):sfx s 0=s.data.toList:=by simp[sfx]
theorem zoJ (s:ByteArray)(w:World)(hs:65536<s.size):Calls Tryz.prog 130 #[.string s] w fun e w'=>e=.returned (.int .i64 0)∧Below w.heap.size w w':=by
 have t1:(65536:Int)<s.size:=by omega
 go_enter Tryz.func130,Tryz.ntmps130
 go_wp2_with fail
 go_ret;exact⟨rfl,zv3 _ _⟩
theorem ztu (s:ByteArray)(w:World)(hs:s.size≤65536)(hK:KeysAt w)(hb:0<w.heap.size):Calls Tryz.prog 130 #[.string s] w fun e w'=>e=.returned (.int .i64 (zce s))∧Below w.heap.size w w':=by
 have t1:(s.size:Int)≤65536:=by omega
 have HT:=Hd (zvh hs);have HK:=Hd hK;clear hK
 go_enter Tryz.func130,Tryz.ntmps130
 go_upto_region 4 with fail
 generalize hw1:World.alloc _ _=w1;have H1:=Hd (show RdAt w1 w.heap.size s 0 0 by rw[← hw1];exact⟨zv8 w _⟩);have HB1:=Hd (show Below w.heap.size w w1 by rw[← hw1];exact(zv3 _ _).alloc (zv0 _) _);clear hw1
 have HRd:=Hd (show Calls Tryz.prog 137 #[.pointer (some ⟨w.heap.size,0,none⟩),.int .i64 1] w1.drew (zhD w1.drew w.heap.size s 1 0 (tyF (2*s.size+1) (sfx s 0))) from
  zmM (2*s.size+1) w.heap.size 0 1 0 s w1.drew (H1.out.drewN 1) (Nat.zero_le _) (by omega) hs (by omega) ((HK.out.below HB1.out).drewN 1) hb)
 rcases hty:tyF (2*s.size+1) (sfx s 0) with _|⟨t,q⟩
 ·rw[hty]at HRd
  have hfin:=Hd (show zce s=0 by unfold zce;rw[HT.out,hty];rfl);clear hty
  ·skip
   refine wp_region_any (by kernel_rfl) ?_;change wpAny _ _ _ _ _ _ _ (World.drew _);refine wpAny_ready (rs:=[0]) (by kernel_rfl) (by simp) ?_;refine AllReady.cons rfl (fun K hK=>?_) AllReady.nil
   go_simp
   refine hK _ _ ?_;clear hK K;refine wpAny_ready (rs:=[1]) (by kernel_rfl) (by simp) ?_;refine AllReady.cons rfl (fun K hK=>?_) AllReady.nil
   go_simp
   (with_reducible refine HRd.out.mono ?_)
   rintro e w4 ⟨⟨rfl,k2,d2,hT⟩,hg⟩;show K _ _;refine hK _ _ ?_;clear hK K;have HBx:=Hd (zhy HB1.out hg);clear hT hg;refine zfs 2 _ (by simp only[List.drop_succ_cons,List.drop_zero]) rfl (by kernel_rfl) (by kernel_rfl) ?_
   repeat (go_big_quiet_step (fail))
   refine wpQuiet_nil ?_;intro _ hw';obtain⟨nq,rfl⟩:=hw'
   go_wp2_with fail
   go_ret;exact⟨by rw[hfin.out];rfl,zaf HBx.out _⟩
 ·rw[hty]at HRd
  obtain⟨hcode,hrt⟩:=(zcr _).1 _ _ _ hty;obtain⟨hq,hpos,hle,hql⟩:=zcQ hcode (Nat.zero_le _);have hdp:=zcK t
  by_cases hq0:q=[]
  ·subst hq0
   have hfin:=Hd (show zce s=zaS t by unfold zce;rw[HT.out,hty];rfl);clear hty hcode hrt hq hpos hle hql;refine wp_region_any (by kernel_rfl) ?_;change wpAny _ _ _ _ _ _ _ (World.drew _);refine wpAny_ready (rs:=[0]) (by kernel_rfl) (by simp) ?_;refine AllReady.cons rfl (fun K hK=>?_) AllReady.nil
   go_simp
   refine hK _ _ ?_;clear hK K;refine wpAny_ready (rs:=[1]) (by kernel_rfl) (by simp) ?_;refine AllReady.cons rfl (fun K hK=>?_) AllReady.nil
   go_simp
   (with_reducible refine HRd.out.mono ?_)
   rintro e w4 ⟨⟨rfl,hT⟩,hg⟩;show K _ _;refine hK _ _ ?_;clear hK K;rw[show s.size-([]:List UInt8).length=s.size by simp,show max 0 (1+zaS t-1)=zaS t by omega]at hT;obtain⟨⟨c0,c1,c2⟩,_⟩:=hT.cells;have HBx:=Hd (zhy HB1.out hg);clear hT hg;refine zfs 2 _ (by simp only[List.drop_succ_cons,List.drop_zero]) rfl (by kernel_rfl) (by kernel_rfl) ?_
   repeat (go_big_quiet_step (fail))
   refine wpQuiet_nil ?_;intro _ hw';obtain⟨nq,rfl⟩:=hw'
   go_wp2_with fail
   go_ret;exact⟨by rw[hfin.out];rfl,zaf HBx.out _⟩
  ·have hfin:=Hd (show zce s=0 by unfold zce;rw[HT.out,hty];simp[hq0])
   obtain⟨k3,ek⟩:∃k3,k3=s.size-q.length:=⟨_,rfl⟩
   have hk3:((k3:Int) != s.size)=true:=by
    have:1≤q.length:=zwc hq0;simp;omega
   have EK:=Hd ek;clear hty hcode hrt hq hpos hle hql hq0 ek;refine wp_region_any (by kernel_rfl) ?_;change wpAny _ _ _ _ _ _ _ (World.drew _);refine wpAny_ready (rs:=[0]) (by kernel_rfl) (by simp) ?_;refine AllReady.cons rfl (fun K hK=>?_) AllReady.nil
   go_simp
   refine hK _ _ ?_;clear hK K;refine wpAny_ready (rs:=[1]) (by kernel_rfl) (by simp) ?_;refine AllReady.cons rfl (fun K hK=>?_) AllReady.nil
   go_simp
   (with_reducible refine HRd.out.mono ?_)
   rintro e w4 ⟨⟨rfl,hT⟩,hg⟩;show K _ _;refine hK _ _ ?_;clear hK K;rw[← EK.out]at hT;obtain⟨⟨c0,c1,c2⟩,_⟩:=hT.cells;have HBx:=Hd (zhy HB1.out hg);clear hT hg;refine zfs 2 _ (by simp only[List.drop_succ_cons,List.drop_zero]) rfl (by kernel_rfl) (by kernel_rfl) ?_
   repeat (go_big_quiet_step (fail))
   refine wpQuiet_nil ?_;intro _ hw';obtain⟨nq,rfl⟩:=hw'
   go_wp2_with fail
   go_ret;exact⟨by rw[hfin.out];rfl,zaf HBx.out _⟩
theorem znk (s:ByteArray)(w:World)(hK:KeysAt w)(hb:0<w.heap.size):Calls Tryz.prog 130 #[.string s] w fun e w'=>e=.returned (.int .i64 (zce s))∧Below w.heap.size w w':=by
 by_cases hs:s.size≤65536
 ·exact ztu s w hs hK hb
 ·have:zce s=0:=by unfold zce tyS;rw[if_neg hs]
  rw[this];exact zoJ s w (by omega)
theorem zoK (s:ByteArray):decide ((0:Int)<zce s)=(tyS s).isSome:=by
 unfold zce;cases h:tyS s with
 | none=>simp
 | some t=>have:=zcK t;simp;omega
theorem zuH (s:ByteArray)(w:World)(hK:KeysAt w)(hb:0<w.heap.size):Calls Tryz.prog 112 #[.string s] w fun e w'=>e=.returned (.bool (tyS s).isSome)∧Below w.heap.size w w':=by
 have HF:=Hd (zoK s);have HD:=Hd (znk s w hK hb);clear hK
 go_enter Tryz.func112,Tryz.ntmps112
 go_wp2_with (go_at_call 130;refine HD.out.mono ?_)
 rintro e w1 ⟨rfl,hb1⟩;have HB:=Hd hb1;clear hb1;generalize (zce s:Int)=x at HF ⊢
 go_wp2_with fail
 go_ret;exact⟨by rw[← HF.out];rfl,HB.out⟩
set_option maxHeartbeats 8000000
def tyB (t:Ty):ByteArray:=⟨(code t).toArray⟩
theorem ze1 (t:Ty):(tyB t).data.toList=code t:=by simp[tyB]
theorem zgF {x:ByteArray}{t:Ty}(h:x.data.toList=code t):x=tyB t:=zaT (by rw[h,ze1])
theorem zba (t:Ty):(tyB t).size=(code t).length:=by simp[tyB,ByteArray.size]
theorem zeC (t:Ty)(k:Nat):sfx (tyB t) k=(code t).drop k:=by rw[sfx,ze1]
theorem zbW {t:Ty}{c:UInt8}{l:List UInt8}(h:code t=c :: l):∃hk:0<(tyB t).size,(tyB t)[0]=c:=by
 have h1:sfx (tyB t) 0=c :: l:=by rw[zeC,h];rfl
 obtain⟨hk,h2,_⟩:=zbM h1;exact⟨hk,h2⟩
theorem ziL {t u:Ty}{k:Nat}(h:(code t).drop k=code u):(tyB t).extract k (tyB t).size=tyB u:=zgF (by rw[zcB,zeC,h])
def zrz (t:Ty)(w:World)(e:Ending)(w':World):Prop:=
 (match t with
   | .ptr u=>e=.returned (.tuple #[.string (tyB u),.int .i64 0,.slice none 0 0])
   | .arr n u=>e=.returned (.tuple #[.string (tyB u),.int .i64 n,.slice none 0 0])
   | .fn ps r=>∃v,e=.returned (.tuple #[.string (tyB r),.int .i64 0,v])∧w'.ownsRow w.heap.size 40 1 v ps.length (ps.map fun p=>.string (tyB p))
   | _=>True)∧Below w.heap.size w w'
theorem zuN {c:UInt8}{l u r:List UInt8}(h:zbT c l=some (u,r)):Lib.cut l [c]=(u,r,true):=by
 obtain⟨rfl,h2⟩:=zbj h
 have hi:Lib.index (u++c :: r) [c]=(u.length:Nat):=Lib.index_first (by simp) (by simp[Lib.occAt]) (fun k hk=>by
  unfold Lib.occAt;rw[Bool.eq_false_iff];intro e;rw[List.isPrefixOf_iff_prefix]at e;obtain⟨x,hx⟩:=e;have hk2:(u++c :: r)[k]?=some c:=by
   have:=congrArg (fun l=>l[0]?) hx;simp only[List.getElem?_drop]at this;simpa using this.symm
  rw[List.getElem?_append_left hk]at hk2
  exact h2 (List.mem_of_getElem? hk2))
 unfold Lib.cut;rw[hi,if_pos (by omega)];simp
theorem ze2 (n:Nat)(u:Ty)(w:World)(hr:zaD (.arr n u))(hM:MaxLenAt w)(hs:(code (.arr n u)).length≤65536):Calls Tryz.prog 113 #[.string (tyB (.arr n u))] w (zrz (.arr n u) w):=by
 obtain⟨h0,hc⟩:=zbW (t:=.arr n u) (c:=97) (l:=Lib.decDigits n++58 :: code u) rfl;have hno:(58:UInt8) ∉ Lib.decDigits n:=fun hm=>by
  have:=List.all_eq_true.1 (zcz n).1 _ hm;exact absurd this (by decide)
 have hcut:=zuN (zeq (r:=code u) hno);rw[← show ((tyB (.arr n u)).extract 1 (tyB (.arr n u)).size).data.toList=Lib.decDigits n++58 :: code u by rw[zcB,zeC];rfl]at hcut;have t1:(((tyB (.arr n u))[0].toNat:Int) == 112)=false:=by rw[hc];rfl
 have t2:(((tyB (.arr n u))[0].toNat:Int) == 97)=true:=by rw[hc];rfl
 have hsz:(tyB (.arr n u)).size≤65536:=by rw[zba];exact hs
 obtain⟨m,hm⟩:=hM;generalize tyB (.arr n u)=s at *;have HCut:=Hd (Tryz.strings_Cut (s.extract 1 s.size) ⟨#[58]⟩ m w (by rw[ByteArray.size_extract];omega) hm);rw[show (⟨#[58]⟩:ByteArray).data.toList=[58] from rfl,hcut]at HCut;have HN:=Hd (fun w=>zg3 (some n) ⟨(Lib.decDigits n).toArray⟩ w (by simpa using zlK hr.1));have h1:(1:Int)≤s.size:=by omega
 clear hc hcut hno hm hr hs
 go_enter Tryz.func113,Tryz.ntmps113
 go_wp2_with (go_at_call 134;(with_reducible refine HCut.out.mono ?_);rintro e w1 ⟨rfl,nq,rfl⟩)
 go_wp2_with (go_at_call 135;(with_reducible refine(HN.out _).mono ?_))
 rintro e w2 ⟨rfl,hb2⟩;have HB:=Hd ((zaf (zv3 w.heap.size w) nq).trans hb2);clear hb2
 go_wp2_with fail
 go_ret3
 exact⟨rfl,HB.out⟩
theorem zs6:(Tryz.prog.info? 40).map (fun i=>(i.zero,i.size,i.bytes))=some (some (.string ⟨#[]⟩),1,16):=by kernel_rfl
theorem zfE {w w':World}{B n b:Nat}{T:TypeId}{sz:Nat}{v:Value}{xs:List Value}(h:w.ownsRow B T sz v n xs)(hg:w.grownBy w' (some b))(hb:b<B):w'.ownsRow B T sz v n xs:=
 h.kept hg (.inr fun e=>by have:=(h.lt _ e).1;omega)
theorem zlH {w:World}{base base':Nat}{e:TypeId}{size:Nat}{v:Value}{n:Nat}{xs:List Value}(h:w.ownsRow base e size v n xs)(hb:base'≤base):w.ownsRow base' e size v n xs:=
 ⟨h.1,h.2.imp id fun ⟨g,cap,cur,e,hg,r⟩=>⟨g,cap,cur,e,zv6 hb hg,r⟩⟩
def zfK (done rest:List Ty)(r:Ty):List UInt8:=(if done=[] then zbw rest else zcL rest)++41 :: code r
theorem zqq (done rest:List Ty)(p r:Ty):zfK (done++[p]) rest r=zcL rest++41 :: code r:=by simp[zfK]
theorem zot (rest:List Ty)(p r:Ty):zfK [] (p :: rest) r=code p++(zcL rest++41 :: code r):=by simp[zfK,zaO]
theorem zqr {done:List Ty}(h:done≠[])(rest:List Ty)(p r:Ty):zfK done (p :: rest) r=44 :: (code p++(zcL rest++41 :: code r)):=by
 rw[zfK,if_neg h,zbs,zaO];simp
theorem zs2 (done:List Ty)(r:Ty):zfK done [] r=41 :: code r:=by unfold zfK;split<;>simp[zbw,zcL]
theorem RdAt.grown {w w' b s k d o}(h:RdAt w b s k d)(hg:w.grownBy w' o)(ho:o≠some b):RdAt w' b s k d:=⟨by rw[hg.block b h.lt (Ne.symm ho)];exact h.blk⟩
theorem zcC:∀{done rest:List Ty} {p:Ty},zez (done++p :: rest)→zaD p
 | [],_,_,h=>h.1
 | _ :: d,_,_,h=>zcC (done:=d) h.2
theorem znl:∀{done rest:List Ty} {p:Ty},(code p).length≤(zbw (done++p :: rest)).length∧(code p).length≤(zcL (done++p :: rest)).length
 | [],rest,p=>by rw[List.nil_append,zaO,zbs,zaO];simp;omega
 | t :: d,rest,p=>by
   have:=znl (done:=d) (rest:=rest) (p:=p);rw[List.cons_append,zaO,zbs,zaO];simp;omega
theorem zcy:∀{l:List Ty},zez l→l.length≤(zbw l).length
 | [],_=>by simp
 | [t],h=>by rw[zaO];have:=zb7 h.1;simp;omega
 | t :: u :: l,h=>by
   have h1:=zcy (l:=u :: l) h.2;rw[zaO,zbs];simp at h1 ⊢;omega
theorem zrm (s:ByteArray):∀u ∈ [Value.string s],u.oneCell'=true:=by simp[Value.oneCell']
theorem zuY {n:Nat}(h:n≤70000):n≤maxLen:=by unfold maxLen;omega
theorem zuX {n:Nat}(h:n≤70000):n*16≤140737488355328:=by omega
theorem c5_le {n:Nat}{w4:World}{o:Obj}(h:n<w4.heap.size):n+1≤(w4.alloc o).heap.size:=by simp;omega
theorem zpi {ps:List Ty}{r:Ty}{w w':World}{x:ByteArray}{v:Value}(hx:x=tyB r)(ho:w'.ownsRow w.heap.size 40 1 v ps.length (ps.map fun p=>.string (tyB p)))(hb:Below w.heap.size w w') :
 zrz (.fn ps r) w (.returned (.tuple #[.string x,.int .i64 0,v])) w':=by subst hx;exact⟨⟨v,rfl,ho⟩,hb⟩
theorem zp1 {s:ByteArray}{k:Nat}{p:Ty}{q:List UInt8}(h:sfx s k=code p++q)(hp:zaD p):(∀h:k<s.size,s[k]≠41)∧∀h:k<s.size,s[k]≠44:=by
 obtain⟨c,l,e,h1,h2⟩:=zht p hp;rw[e,List.cons_append]at h;exact⟨zeH (fun l' e'=>by rw[h]at e';exact h1 (List.cons.inj e').1),zeH (fun l' e'=>by rw[h]at e';exact h2 (List.cons.inj e').1)⟩
theorem ziQ (ps:List Ty)(r:Ty)(w:World)(hr:zaD (.fn ps r))(hs:(code (.fn ps r)).length≤65536)(hK:KeysAt w)(hb:0<w.heap.size):Calls Tryz.prog 113 #[.string (tyB (.fn ps r))] w (zrz (.fn ps r) w):=by
 obtain⟨h0,hc⟩:=zbW (t:=.fn ps r) (c:=102) (l:=40 :: (zbw ps++41 :: code r)) rfl;have t1:(((tyB (.fn ps r))[0].toNat:Int) == 112)=false:=by rw[hc];rfl
 have t2:(((tyB (.fn ps r))[0].toNat:Int) == 97)=false:=by rw[hc];rfl
 have hsz:(tyB (.fn ps r)).size≤65536:=by rw[zba];exact hs
 have hsz2:2≤(tyB (.fn ps r)).size:=by rw[zba,code];simp
 have HS:=Hd (show sfx (tyB (.fn ps r)) 2=zfK [] ps r by rw[zeC];rfl);generalize tyB (.fn ps r)=s at *;have HK:=Hd hK;have HRt:=Hd hr;have hs':s.size≤1048576:=by omega
 obtain⟨i0,hi,hz0,hz1,hz2⟩:=info_parts zs6;have HI:=Hd (And.intro hi (And.intro hz0 (And.intro hz1 hz2)));clear hc hr hs hK hi hz0 hz1 hz2
 go_enter Tryz.func113,Tryz.ntmps113
 go_wp2_with fail
 clear t1 t2;generalize hw1:World.alloc _ _=w1;have H1:=Hd (show RdAt w1 w.heap.size s 2 0 by rw[← hw1];exact⟨zv8 w _⟩);have HB1:=Hd (show Below w.heap.size w w1 by rw[← hw1];exact(zv3 _ _).alloc (zv0 _) _);clear hw1
 go_loopg [11] ps.length (fun g lv wr=>∃(done rest:List Ty) (k dd:Nat),rest.length=g∧k≤s.size∧Hid (done++rest=ps)∧RdAt wr w.heap.size s k dd∧wr.ownsRow (w.heap.size+1) 40 1 lv done.length (done.map fun p=>.string (tyB p))∧Below w.heap.size w wr∧Hid (sfx s k=zfK done rest r))
 case atStart=>exact⟨[],ps,2,0,rfl,hsz2,rfl,H1.out,World.ownsRow_nil _ _ _ _,HB1.out,HS.out⟩
 case round=>
  obtain⟨done,rest,k,dd,hg,hk,hps,hR,hown,hbw,hL⟩:=hrel;have HR:=Hd hR;have HO:=Hd hown;have HB:=Hd hbw;clear hR hown hbw;cases rest with
  | nil=>
    obtain⟨hlt,hb1,hr1⟩:=zbM (hL.out.trans (zs2 done r));have HT:=Hd (zhG 41 41 w.heap.size k _ s wr rfl HR.out hlt hb1 hs');have HX:=Hd (show s.extract (k+1) s.size=tyB r from zgF (by rw[zcB,hr1]));have HP:=Hd (show done=ps by have:=hps.out;rwa [List.append_nil]at this);have hk1:k+1≤s.size:=hlt;clear hb1 hr1
    go_wp2_with (go_at_call 136;(with_reducible refine HT.out.mono ?_);rintro e w2 ⟨rfl,hT,hg2⟩;obtain⟨⟨c0,c1,c2⟩,_⟩:=hT.cells;have HG2:=Hd hg2;clear hT hg2)
    go_ret3
    refine zpi (by first|exact HX.out|(rw[← HX.out];congr 1)) ?_ (HB.out.trans (zcM HG2.out (zv0 _) HB.out.size));have:=zlH (zfE HO.out HG2.out (by omega)) (base':=w.heap.size) (by omega);rw[HP.out]at this;exact this
  | cons p rest=>
    have hp:zaD p:=zcC (by rw[hps.out];exact HRt.out.1);have hcl:(code p).length<2*s.size+1:=by
     have h1:=(znl (done:=done) (rest:=rest) (p:=p)).1;rw[hps.out]at h1;have h2:=congrArg List.length HS.out;rw[zaJ]at h2;simp[zfK]at h2;omega
    have HPc:=Hd hp;have HCl:=Hd hcl;obtain⟨q,eq⟩:∃q,q=zcL rest++41 :: code r:=⟨_,rfl⟩
    have EQ:=Hd eq;clear hp hcl eq
    by_cases hd:done=[]
    case' pos=>
     have hl2:sfx s k=code p++q:=by rw[hL.out,hd,zot,← EQ.out]
     have HL2:=Hd hl2;have HC:=Hd (zp1 hl2 HPc.out);have hk2:k≤s.size:=hk;clear hl2 hd
     go_wp2_with (go_at_call 136;(with_reducible refine(zbU 41 41 w.heap.size k _ s wr rfl HR.out (by decide) HC.out.1).mono ?_);rintro e w2 ⟨rfl,hT,hg⟩;have HR2:=Hd hT;have HG2:=Hd hg;clear hT hg)
     go_wp2_with (go_at_call 136;(with_reducible refine(zbU 44 44 w.heap.size k _ s w2 rfl HR2.out (by decide) HC.out.2).mono ?_);rintro e w3 ⟨rfl,hT,hg⟩;have HR3:=Hd hT;have HG3:=Hd (zae HG2.out hg);obtain⟨⟨c0,c1,c2⟩,_⟩:=hT.cells;clear hT hg)
     clear HR2 HG2 HC;obtain⟨k2,rfl⟩:∃k2,k2=k:=⟨_,rfl⟩
    case' neg=>
     have hl1:sfx s k=44 :: (code p++q):=by rw[hL.out,zqr hd,← EQ.out]
     obtain⟨hlt,hb1,hr1⟩:=zbM hl1;obtain⟨k2,ek2⟩:∃k2,k2=k+1:=⟨_,rfl⟩
     have HL2:=Hd (show sfx s k2=code p++q by rw[ek2];exact hr1);have hk2:k2≤s.size:=by omega
     have HC:=Hd (zeH (s:=s) (k:=k) (c:=41) (fun l e=>by rw[hl1]at e;exact absurd (List.cons.inj e).1 (by decide)));have HT:=Hd (fun (w2:World) (hR2:RdAt w2 w.heap.size s k dd)=>show Calls Tryz.prog 136 #[.pointer (some ⟨w.heap.size,0,none⟩),.int .u8 44] w2 fun e w'=>e=.returned (.bool true)∧RdAt w' w.heap.size s k2 dd∧w2.grownBy w' (some w.heap.size) by rw[ek2];exact zhG 44 44 w.heap.size k dd s w2 rfl hR2 hlt hb1 hs');clear hl1 hb1 hr1 ek2 hd
     go_wp2_with (go_at_call 136;(with_reducible refine(zbU 41 41 w.heap.size k _ s wr rfl HR.out (by decide) HC.out).mono ?_);rintro e w2 ⟨rfl,hT,hg⟩;have HR2:=Hd hT;have HG2:=Hd hg;clear hT hg)
     go_wp2_with (go_at_call 136;(with_reducible refine(HT.out w2 HR2.out).mono ?_);rintro e w3 ⟨rfl,hT,hg⟩;have HR3:=Hd hT;have HG3:=Hd (zae HG2.out hg);obtain⟨⟨c0,c1,c2⟩,_⟩:=hT.cells;clear hT hg)
     clear HR2 HG2 HC HT hlt
    all_goals
     have hzz:=zae HG3.out (zaK w3 _);have HB3:=Hd (HB.out.trans (zcM HG3.out (zv0 _) HB.out.size));have HO3:=Hd (zfE HO.out HG3.out (by omega));have hrd:=zmM (2*s.size+1) w.heap.size k2 1 dd s w3 HR3.out hk2 (by omega) hsz (by omega) (HK.out.below HB3.out) hb;rw[HL2.out,zcw p HPc.out _ _ HCl.out]at hrd;have HRd:=Hd (show Calls Tryz.prog 137 #[.pointer (some ⟨w.heap.size,0,none⟩),.int .i64 1] w3 (zhD w3 w.heap.size s 1 dd (some (p,q))) from hrd);obtain⟨hq,hpos,hle,hql⟩:=zcQ HL2.out hk2;obtain⟨k3,ek⟩:∃k3,k3=s.size-q.length:=⟨_,rfl⟩
     have hk3:k2≤k3:=by omega
     have hk4:k3≤s.size:=by omega
     have EK:=Hd ek;have HX:=Hd (show s.extract k2 k3=tyB p from zgF (by rw[ek,hpos,za8,HL2.out,List.take_left]));have HL3:=Hd (show sfx s k3=zfK (done++[p]) rest r by rw[zqq,← EQ.out,ek,hq]);have HP3:=Hd (show (done++[p])++rest=ps by rw[← hps.out];simp);clear hzz hrd hq hpos hle hql ek
     have hdl:=Hd (show done.length+1≤70000 by
      have h1:=congrArg List.length hps.out;have h2:=congrArg List.length HS.out;rw[zaJ]at h2;have h3:ps.length≤(zbw ps).length:=zcy HRt.out.1;simp[zfK]at h1 h2
      omega)
     go_wp2_with (first|(go_at_call 137;(with_reducible refine HRd.out.mono ?_);rintro e w4 ⟨⟨rfl,hT⟩,hg⟩;rw[← EK.out]at hT;have HR4:=Hd hT;have HB4:=Hd (HB3.out.trans (zcM hg (zv0 _) HB3.out.size));have HO4:=Hd (zfE HO3.out hg (Nat.lt_succ_self _));obtain⟨⟨q0,q1,q2⟩,_⟩:=hT.cells;clear hT hg)|(at_builtin;refine wpList_append_own _ rfl _ _ 140 rfl (w.heap.size+1) 40 i0 (.string ⟨#[]⟩) 1 16 Tryz.underlying140 HI.out.1 HI.out.2.1 HI.out.2.2.1 HI.out.2.2.2 rfl (by decide) _ _ _ rfl (HO4.out.alloc _) ⟨w4.heap.size,0,none⟩ 1 1 [.string (s.extract k2 k3)] rfl rfl (fun j u h=>zjo _ _ _ j u h) (zrm _) (zuY hdl.out) (zuX hdl.out) (c5_le HR4.out.lt) ?_))
     intro v' w6 hown hgrow _;rw[HX.out]at hown hgrow
     have HO6:=Hd (show w6.ownsRow (w.heap.size+1) 40 1 v' (done++[p]).length ((done++[p]).map fun p=>.string (tyB p)) by
      rw[List.length_append,List.map_append];exact hown)
     have HA:=Hd (show Below w4.heap.size w4 (w4.alloc (.cells #[.string (tyB p)] 40)) from (zv3 _ _).alloc (zv0 _) _);have HR6:=Hd ((HR4.out.below HA.out).grown hgrow (fun e=>by have:=(HO4.out.lt _ e).1;omega));have HB6:=Hd ((HB4.out.trans (HA.out.mono HB4.out.size)).grown hgrow (zv6 HB4.out.size HA.out.size) (fun q e=>by have:=(HO4.out.lt _ e).1;omega));clear hown hgrow
     go_wp2_with fail
     go_roundg rest.length
     case measure=>simp at hg;omega
     case rel=>exact⟨done++[p],rest,k3,_,rfl,hk4,HP3,HR6.out,HO6.out,HB6.out,HL3⟩
structure TE (w:World):Prop where
 keys:KeysAt w
 maxl:MaxLenAt w
theorem TE.below {w w':World}(h:TE w)(hb:Below w.heap.size w w'):TE w':=⟨h.keys.below hb,h.maxl.below hb⟩
theorem TE.drewN {w:World}(h:TE w)(n:Nat):TE (w.drewN n):=⟨h.keys.drewN n,h.maxl.drewN n⟩
theorem TE.lt {w:World}(h:TE w):0<w.heap.size:=World.block_lt_of_cell? w _ (h.keys 0 (by decide))
theorem zaW {s:ByteArray}{t:Ty}:tyS s=some t↔s=tyB t∧zaD t∧(code t).length≤65536:=by
 unfold tyS;have hl:s.data.toList.length=s.size:=by rw[Array.length_toList];rfl
 constructor
 ·intro h
  split at h
  ·obtain⟨h1,h2⟩:=zmw.1 h
   exact⟨zgF h1,h2,by rw[← h1,hl];assumption⟩
  ·cases h
 ·rintro⟨rfl,h2,h3⟩
  rw[if_pos (by rw[zba];exact h3)];exact zmw.2 ⟨ze1 t,h2⟩
theorem zjb (r:Bool)(s:ByteArray)(w:World)(hE:TE w)(hr:(tyS s).isSome=r):Calls Tryz.prog 112 #[.string s] w fun e w'=>e=.returned (.bool r)∧Below w.heap.size w w':=by
 subst hr;exact zuH s w hE.keys hE.lt
theorem zbp (s:ByteArray)(c:UInt8):(s.toList == [c])=decide (s=⟨#[c]⟩):=by
 rw[Bool.eq_iff_iff,beq_iff_eq,decide_eq_true_iff,Lib.toList_data];exact⟨fun h=>zaT (by rw[h]),fun h=>by rw[h]⟩
theorem zsB {t:Ty}(h:zaD t)(c:UInt8):(tyB t=⟨#[c]⟩)↔t=.base c:=by
 constructor
 ·intro e
  have e2:code t=[c]:=by rw[← ze1,e]
  cases t with
  | base d=>simp[code]at e2;rw[e2]
  | ptr u=>rw[code]at e2;have:=zb7 (t:=u) h;simp at e2;rw[e2.2]at this;simp at this
  | arr n u=>rw[code]at e2;simp at e2
  | str s=>rw[code]at e2;simp at e2
  | fn ps r=>rw[code]at e2;simp at e2
 ·rintro rfl;rfl
def zaX (s:ByteArray):Bool:=(tyS s).any zhf
theorem zir {s:ByteArray}(h1:s≠⟨#[99]⟩)(h2:s≠⟨#[115]⟩)(h3:s≠⟨#[105]⟩)(h4:s≠⟨#[117]⟩):zaX s=false:=by
 unfold zaX;rcases h:tyS s with _|t
 ·rfl
 ·obtain⟨rfl,hr,_⟩:=zaW.1 h
  cases t with
  | base c=>
    simp only[Option.any_some,zhf,decide_eq_false_iff_not];rintro(rfl|rfl|rfl|rfl)
    ·exact h1 rfl
    ·exact h2 rfl
    ·exact h3 rfl
    ·exact h4 rfl
  | _=>rfl
theorem zcP {c:UInt8}(h:zbz c=true):tyS ⟨#[c]⟩=some (.base c):=zaW.2 ⟨rfl,h,by simp[code]⟩
theorem zs4 (s:ByteArray)(w:World):Calls Tryz.prog 153 #[.string s] w fun e w'=>e=.returned (.bool (zaX s))∧w'=w:=by
 by_cases h1:s=⟨#[99]⟩
 ·have hfin:=Hd (show zaX s=true by rw[h1,zaX,zcP (by decide)];rfl)
  have t1:(s.toList == [99])=true:=by rw[zbp];simpa using h1
  clear h1
  go_enter Tryz.func153,Tryz.ntmps153
  go_wp2_with fail
  go_ret;exact⟨by rw[hfin.out];rfl,rfl⟩
 ·have t1:(s.toList == [99])=false:=by rw[zbp];simpa using h1
  by_cases h2:s=⟨#[115]⟩
  ·have hfin:=Hd (show zaX s=true by rw[h2,zaX,zcP (by decide)];rfl)
   have t2:(s.toList == [115])=true:=by rw[zbp];simpa using h2
   clear h1 h2
   go_enter Tryz.func153,Tryz.ntmps153
   go_wp2_with fail
   go_ret;exact⟨by rw[hfin.out];rfl,rfl⟩
  ·have t2:(s.toList == [115])=false:=by rw[zbp];simpa using h2
   by_cases h3:s=⟨#[105]⟩
   ·have hfin:=Hd (show zaX s=true by rw[h3,zaX,zcP (by decide)];rfl)
    have t3:(s.toList == [105])=true:=by rw[zbp];simpa using h3
    clear h1 h2 h3
    go_enter Tryz.func153,Tryz.ntmps153
    go_wp2_with fail
    go_ret;exact⟨by rw[hfin.out];rfl,rfl⟩
   ·have t3:(s.toList == [105])=false:=by rw[zbp];simpa using h3
    by_cases h4:s=⟨#[117]⟩
    ·have hfin:=Hd (show zaX s=true by rw[h4,zaX,zcP (by decide)];rfl)
     have t4:(s.toList == [117])=true:=by rw[zbp];simpa using h4
     clear h1 h2 h3 h4
     go_enter Tryz.func153,Tryz.ntmps153
     go_wp2_with fail
     go_ret;exact⟨by rw[hfin.out];rfl,rfl⟩
    ·have t4:(s.toList == [117])=false:=by rw[zbp];simpa using h4
     have hfin:=Hd (zir h1 h2 h3 h4);clear h1 h2 h3 h4
     go_enter Tryz.func153,Tryz.ntmps153
     go_wp2_with fail
     go_ret;exact⟨by rw[hfin.out];rfl,rfl⟩
theorem zgt (r:Bool)(s:ByteArray)(w:World)(hr:zaX s=r):Calls Tryz.prog 153 #[.string s] w fun e w'=>e=.returned (.bool r)∧w'=w:=by subst hr;exact zs4 s w
def zbk (s:ByteArray):Bool:=(tyS s).any zap
theorem zow {s:ByteArray}(h:zaX s=true):zbk s=true:=by
 unfold zaX at h;unfold zbk;rcases hs:tyS s with _|t
 ·rw[hs]at h;cases h
 ·rw[hs]at h;simp only[Option.any_some]at h ⊢;simp[zap,h]
theorem zov {s:ByteArray}(hi:zaX s=false)(hk:0<s.size)(hc:s[0]=112):zbk s=(tyS s).isSome:=by
 unfold zbk;rcases hs:tyS s with _|t
 ·rfl
 ·obtain⟨rfl,hr,_⟩:=zaW.1 hs
  cases t with
  | ptr u=>rfl
  | base c=>
    obtain⟨_,h2⟩:=zbW (t:=.base c) (c:=c) (l:=[]) rfl;rw[h2]at hc;rw[hc]at hr;exact absurd hr (by show ¬zbz 112=true;decide)
  | arr n u=>obtain⟨_,h2⟩:=zbW (t:=.arr n u) rfl;rw[h2]at hc;exact absurd hc (by decide)
  | str n=>obtain⟨_,h2⟩:=zbW (t:=.str n) rfl;rw[h2]at hc;exact absurd hc (by decide)
  | fn ps r=>obtain⟨_,h2⟩:=zbW (t:=.fn ps r) rfl;rw[h2]at hc;exact absurd hc (by decide)
theorem zkA {s:ByteArray}(hi:zaX s=false)(hc:∀h:0<s.size,s[0]≠112):zbk s=false:=by
 unfold zbk;unfold zaX at hi;rcases hs:tyS s with _|t
 ·rfl
 ·obtain⟨rfl,hr,_⟩:=zaW.1 hs
  rw[hs]at hi;simp only[Option.any_some]at hi ⊢;cases t with
  | ptr u=>obtain⟨h1,h2⟩:=zbW (t:=.ptr u) rfl;exact absurd h2 (hc h1)
  | _=>simp[zap,hi,isPtrT]
theorem zl1 (s:ByteArray)(w:World)(hE:TE w):Calls Tryz.prog 144 #[.string s] w fun e w'=>e=.returned (.bool (zbk s))∧Below w.heap.size w w':=by
 have HE:=Hd hE;clear hE;rcases hi:zaX s with _|_
 ·have HI:=Hd hi
  by_cases h0:0<s.size
  ·by_cases hc:s[0]=112
   ·have HF:=Hd (zov hi h0 hc)
    have t0:decide (0<s.size)=true:=by simpa using h0
    have t1:((s[0].toNat:Int) == 112)=true:=by rw[hc];rfl
    rcases hf:(tyS s).isSome with _|_
    all_goals
     have HFm:=Hd (zjb _ s w HE.out hf);have hfin:=Hd (HF.out.trans hf);clear hi hc hf
     go_enter Tryz.func144,Tryz.ntmps144
     go_wp2_with (first|(go_at_call 153;(with_reducible refine(zgt _ s _ HI.out).mono ?_);rintro e w1 ⟨rfl,rfl⟩)|(go_at_call 112;(with_reducible refine HFm.out.mono ?_);rintro e w1 ⟨rfl,hb1⟩))
     go_ret;exact⟨by rw[hfin.out];rfl,hb1⟩
   ·have hfin:=Hd (zkA hi (fun _=>hc))
    have t0:decide (0<s.size)=true:=by simpa using h0
    have t1:((s[0].toNat:Int) == 112)=false:=by
     rw[zwa];intro e
     exact hc (UInt8.toNat_inj.1 (by have:s[0].toNat=112:=by omega
                                     simpa using this))
    clear hi hc
    go_enter Tryz.func144,Tryz.ntmps144
    go_wp2_with (first|(go_at_call 153;(with_reducible refine(zgt _ s _ HI.out).mono ?_);rintro e w1 ⟨rfl,rfl⟩))
    go_ret;exact⟨by rw[hfin.out];rfl,zv3 _ _⟩
  ·have hfin:=Hd (zkA hi (fun h=>absurd h h0))
   have t0:decide (0<s.size)=false:=by simpa using h0
   clear hi
   go_enter Tryz.func144,Tryz.ntmps144
   go_wp2_with (first|(go_at_call 153;(with_reducible refine(zgt _ s _ HI.out).mono ?_);rintro e w1 ⟨rfl,rfl⟩))
   go_ret;exact⟨by rw[hfin.out];rfl,zv3 _ _⟩
 ·have HI:=Hd hi
  have hfin:=Hd (zow hi);clear hi
  go_enter Tryz.func144,Tryz.ntmps144
  go_wp2_with (first|(go_at_call 153;(with_reducible refine(zgt _ s _ HI.out).mono ?_);rintro e w1 ⟨rfl,rfl⟩))
  go_ret;exact⟨by rw[hfin.out];rfl,zv3 _ _⟩
theorem zgc {w:World}:∀{l:List (String × DataW Unit)} {ps:List MemPlace},DataW.LaidVars Tryz.prog w l ps→∀(n:String) (d:DataW Unit),(n,d) ∈ l →
 ∃g t cs fuel p,Tryz.prog.globalNamed n=some g∧(Tryz.prog.globals[g]?).map (·.type)=some t∧w.var? Tryz.prog n=some cs∧DataW.trod (fun _=>()) Tryz.prog w 0 (fun _=>true) false fuel t cs.toList=some (d,p)
 | [],_,_,_,_,hm=>by cases hm
 | (n',d') :: r,ps,h,n,d,hm=>by
   obtain⟨g,t,cs,fuel,p,q,h1,h2,h3,h4,h5,_⟩:=h;rcases List.mem_cons.1 hm with e|hm'
   ·simp only[Prod.mk.injEq]at e
    obtain⟨rfl,rfl⟩:=e;exact⟨g,t,cs,fuel,p,h1,h2,h3,h4⟩
   ·exact zgc h5 n d hm'
theorem zlg {w:World}{base fuel n:Nat}{sp:Nat→Bool}{held:Bool}{t e:TypeId}{cs:List Value}{zs:List (List UInt8)}{p:List MemPlace}
 (ht:Tryz.prog.underlying t=some (.array n e)) (he:Tryz.prog.underlying e=some .string) (hce:Tryz.prog.cellsOf e=1) (hct:Tryz.prog.cellsOf t=n)
 (h:DataW.trod (fun _=>()) Tryz.prog w base sp held fuel t cs=some (.agg (zs.map fun z=>.lit (.string z)),p)):∀j,j<zs.length→cs[j]?=some (.string ⟨(zs.getD j []).toArray⟩):=by
 obtain⟨xs,m,_,hx,hl,hxl,hf⟩:=DataW.trod_array ht h;simp only[Prod.mk.injEq,DataW.agg.injEq]at hx;have hlen:zs.length=n:=by have:=congrArg List.length hx.1;simp at this;omega
 intro j hj;have hjn:j<n:=by omega
 have h1:=hf j hjn;rw[hce,Nat.mul_one]at h1;have hjc:j<cs.length:=by omega
 rw[List.drop_eq_getElem_cons hjc,List.take_succ_cons,List.take_zero,zv1 (by omega)]at h1;obtain⟨s,e1,e2,_⟩:=DataW.trod_string he h1;simp only[List.cons.injEq,and_true]at e1;rw[zv1 hjc,e1];have h3:(xs.map (·.1))[j]?=some (.lit (.string s.data.toList)):=by
  rw[List.getElem?_map,zv1 (by omega),e2];rfl
 rw[← hx.1,List.getElem?_map,zv1 hj]at h3;simp only[Option.map_some,Option.some.injEq,DataW.lit.injEq,Lit.string.injEq]at h3;rw[zeT _ _ hj,h3]
theorem zvA:Tryz.prog.globalNamed "catapult/lex.keys"=some 0:=by kernel_rfl
theorem keysT:(Tryz.prog.globals[0]?).map (·.type)=some 188:=by kernel_rfl
theorem ztA:Tryz.prog.cellsOf 188=20:=by kernel_rfl
theorem zvM:Tryz.prog.cellsOf 9=1:=by kernel_rfl
theorem zqu {w:World}{l:List (String × DataW Unit)}(h:laidMet Tryz.prog l w)(hm:("catapult/lex.keys",Rows.laid_catapult_lex_keys) ∈ l):KeysAt w:=by
 obtain⟨ps,hv,_⟩:=h;obtain⟨g,t,cs,fuel,p,h1,h2,h3,h4⟩:=zgc hv _ _ hm;obtain rfl:=zv4 (zvA.symm.trans h1);obtain rfl:=zv4 (keysT.symm.trans h2);have h5:=zlg (zs:=keyT.map (·.data.toList)) Tryz.underlying188 Tryz.underlying9 zvM ztA h4;intro j hj;rw[Nat.zero_add,World.var?_cell zvA h3 j];have h6:=h5 j (by rw[List.length_map];exact hj);rw[zeT _ _ (by rw[List.length_map];exact hj),List.getElem_map]at h6;rw[zeT _ _ hj];simpa using h6
theorem zlT {w:World}(h:w.ShapedOpen Tryz.prog):MaxLenAt w:=Tryz.laysM219.s1_3 w h
theorem zt5 {w:World}{l:List (String × DataW Unit)}(h:laidMet Tryz.prog l w)(hs:w.ShapedOpen Tryz.prog)(h2:("catapult/lex.keys",Rows.laid_catapult_lex_keys) ∈ l):TE w:=⟨zqu h h2,zlT hs⟩
def zrU:DataW Unit→Array Value
 | .agg l=>(l.map fun d=>match d with
   | .lit (.int k n)=>Value.int k n
   | .lit (.string s)=>Value.string ⟨s.toArray⟩
   | _=>Value.bool false).toArray
 | _=>#[]
noncomputable def zjh (os:Os):World:=
 let w0:=World.holding Tryz.prog os ⟨#[],#[],[]⟩
 let put (h:Array Obj) (g:Nat) (cs:Array Value):Array Obj:=h.modify g fun
  | .cells _ t frozen=>.cells cs t frozen
  | o=>o
 { w0 with heap:=put w0.heap 0 (zrU Rows.laid_catapult_lex_keys) }
end Go.Proofs.YtbbaooeioogijaaGreatDoor
namespace Go.Proofs.YtbbaooeioogijaaGreatDoor
structure Nd where
 kind:Int
 n:Int
 at_:Int
 int:Int
 text:ByteArray
 type:ByteArray
def arityN (k:Int):Int × Int:=
 if k=1∨k=2∨k=3∨k=17∨k=30∨k=31∨k=33 then (0,0)
 else if k=4∨k=5∨k=6∨k=13∨k=14∨k=15∨k=16∨k=20∨k=29 then (1,1)
 else if k=7∨k=8∨k=10∨k=12∨k=24∨k=25∨k=27∨k=28 then (2,2)
 else if k=9 then (3,3)
 else if k=26 then (4,4)
 else if k=11 then (1,9)
 else if k=21 then (0,4096)
 else if k=22∨k=32 then (0,1)
 else if k=23 then (2,3)
 else (-1,-1)
def typedS (s:ByteArray):Bool:=decide (checkS [] s=0∨checkS [] s=4)
def zaU (s:ByteArray):Bool:=(tyS s).any objectT
def zmZ:List ByteArray:=[⟨#[42]⟩,⟨#[47]⟩,⟨#[37]⟩,⟨#[43]⟩,⟨#[45]⟩,⟨#[60,60]⟩,⟨#[62,62]⟩,⟨#[60]⟩,⟨#[62]⟩,⟨#[60,61]⟩,⟨#[62,61]⟩,⟨#[61,61]⟩,⟨#[33,61]⟩,⟨#[38]⟩,⟨#[94]⟩,⟨#[124]⟩,⟨#[38,38]⟩,⟨#[124,124]⟩]
def marksN (k:Int):List ByteArray:=
 if k=4 then [⟨#[45]⟩,⟨#[126]⟩,⟨#[33]⟩,⟨#[38]⟩,⟨#[42]⟩]
 else if k=5∨k=6 then [⟨#[43,43]⟩,⟨#[45,45]⟩]
 else if k=7 then zmZ
 else if k=8 then [⟨#[61]⟩,⟨#[42,61]⟩,⟨#[47,61]⟩,⟨#[37,61]⟩,⟨#[43,61]⟩,⟨#[45,61]⟩,⟨#[60,60,61]⟩,⟨#[62,62,61]⟩,⟨#[38,61]⟩,⟨#[94,61]⟩,⟨#[124,61]⟩]
 else []
def noText (s:ByteArray):Bool:=decide (s.size=0)
def numberN (x:Nd):Bool:=if x.type=⟨#[117]⟩ then decide (0≤x.int∧x.int<4294967296) else decide (x.type=⟨#[105]⟩) && decide (-128≤x.int∧x.int<2147483648)
def zbu (x:Nd):Bool:=decide (0≤(arityN x.kind).1∧(arityN x.kind).1≤x.n∧x.n≤(arityN x.kind).2∧0≤x.at_∧x.at_≤65536)
def zcl (x:Nd):Bool:=decide (x.int=0∨(x.kind=22∧x.int=1))
def zc2 (x:Nd):Bool:=
 if x.kind=2 then decide (x.text.size≤4096) && noText x.type
 else if x.kind=3∨x.kind=13∨x.kind=14 then isNameB x.text && noText x.type
 else if x.kind=22 then isNameB x.text && (typedS x.type && zaU x.type)
 else if x.kind=4∨x.kind=5∨x.kind=6∨x.kind=7∨x.kind=8 then Lib.containsS (marksN x.kind) x.text && noText x.type
 else if x.kind=15∨x.kind=17 then noText x.text && typedS x.type
 else noText x.text && noText x.type
def wellN (x:Nd):Bool:=zbu x && (if x.kind=1 then numberN x && noText x.text else zcl x && zc2 x)
def zaB:List Nd→Nat→List Nat→Option (List Nat × List Nat)
 | [],_,st=>some ([],st)
 | x :: l,i,st=>
   if x.n<0∨(st.length:Int)<x.n then none
   else
    let a:=if 0<x.n then st.getD (x.n.toNat-1) 0 else i
    (zaB l (i+1) (a :: st.drop x.n.toNat)).map fun r=>(a :: r.1,r.2)
def zah (t:List Nd):Option (List Nat):=match zaB t 0 [] with
 | some (f,[_])=>some f
 | _=>none
def zby (fr:List Nat):Nat→Nat→List Nat
 | 0,_=>[]
 | n+1,e=>zby fr n (fr.getD (e-1) 0)++[e-1]
def Back (fr:List Nat):Nat→Nat→Prop
 | 0,_=>True
 | n+1,e=>0<e∧fr.getD (e-1) 0<e∧Back fr n (fr.getD (e-1) 0)
def Ends (fr:List Nat):List Nat→Nat→Prop
 | [],_=>True
 | s :: st,e=>s<e∧fr.getD (e-1) 0=s∧Ends fr st s
theorem Ends.back {fr:List Nat}:∀{st:List Nat} {e n:Nat},Ends fr st e→n≤st.length→Back fr n e
 | _,_,0,_,_=>trivial
 | [],_,n+1,_,h=>by simp at h
 | s :: st,e,n+1,⟨h1,h2,h3⟩,h=>⟨by omega,by omega,by rw[h2];exact Ends.back h3 (by simpa using h)⟩
theorem ztj {fr g:List Nat}{k:Nat}(h:k<fr.length):(fr++g).getD k 0=fr.getD k 0:=by
 rw[zv2,zv2,List.getElem?_append_left h]
theorem Ends.app {fr g:List Nat}:∀{st:List Nat} {e:Nat},e≤fr.length→Ends fr st e→Ends (fr++g) st e
 | [],_,_,_=>trivial
 | s :: st,e,he,⟨h1,h2,h3⟩=>⟨h1,by rw[ztj (by omega)];exact h2,Ends.app (by omega) h3⟩
theorem Ends.drop {fr:List Nat}:∀{st:List Nat} {e:Nat} (n:Nat),Ends fr st e→0<n→n≤st.length→Ends fr (st.drop n) (st.getD (n-1) 0)
 | [],_,n,_,h0,h=>by simp at h;omega
 | s :: st,e,n+1,⟨h1,h2,h3⟩,_,h=>by
   cases n with
   | zero=>simpa using h3
   | succ n=>
     have:=Ends.drop (n+1) h3 (by omega) (by simpa using h);simpa using this
theorem Ends.lt {fr:List Nat}:∀{st:List Nat} {e:Nat} (n:Nat),Ends fr st e→n<st.length→st.getD n 0<e
 | [],_,n,_,h=>by simp at h
 | s :: st,e,0,⟨h1,_,_⟩,_=>by simpa using h1
 | s :: st,e,n+1,⟨h1,_,h3⟩,h=>by
   have:=Ends.lt n h3 (by simpa using h);simp only[List.getD_cons_succ];omega
theorem zdG:∀(l:List Nd) (pre:List Nat) (st:List Nat) {f st':List Nat},zaB l pre.length st=some (f,st')→Ends pre st pre.length →
 f.length=l.length∧Ends (pre++f) st' (pre.length+l.length)∧∀(j:Nat) x,l[j]?=some x→0≤x.n∧Back (pre++f) x.n.toNat (pre.length+j)∧(pre++f).getD (pre.length+j) 0≤pre.length+j
 | [],pre,st,f,st',h,he=>by
   rw[zaB]at h;obtain⟨rfl,rfl⟩:=Prod.mk.inj (zv4 h);exact⟨rfl,by simpa using he,fun j x hx=>by simp at hx⟩
 | x :: l,pre,st,f,st',h,he=>by
   rw[zaB]at h
   split at h
   ·cases h
   ·rename_i hn
    simp only[Option.map_eq_some_iff]at h;obtain⟨⟨g,st2⟩,hg,e⟩:=h;obtain⟨rfl,rfl⟩:=Prod.mk.inj e;simp only at hg ⊢;generalize ha:(if 0<x.n then st.getD (x.n.toNat-1) 0 else pre.length)=a at *;have hle:x.n.toNat≤st.length:=by omega
    have ha1:a≤pre.length:=by
     rw[← ha]
     split
     ·exact zv7 (he.lt _ (by omega))
     ·exact zv0 _
    have he2:Ends (pre++[a]) (a :: st.drop x.n.toNat) (pre++[a]).length:=by
     refine⟨by simp;omega,by simp,?_⟩
     by_cases h0:0<x.n
     ·rw[if_pos h0]at ha
      rw[← ha];exact(he.drop x.n.toNat (by omega) hle).app (by rw[ha];exact ha1)
     ·rw[if_neg h0]at ha
      have:x.n.toNat=0:=by omega
      rw[this,← ha];simpa using he.app (zv0 _)
    have hl1:(pre++[a]).length=pre.length+1:=by simp
    obtain⟨h1,h2,h3⟩:=zdG l (pre++[a]) _ (by rw[hl1];exact hg) he2;have hap:pre++[a]++g=pre++a :: g:=by simp
    rw[hap,hl1]at h2 h3;refine⟨by simp[h1],by rw[show pre.length+(x :: l).length=pre.length+1+l.length by simp;omega];exact h2,fun j y hy=>?_⟩;cases j with
    | zero=>
      obtain rfl:=zv4 hy;refine⟨by omega,?_,?_⟩
      ·have:=(he.app (g:=a :: g) (zv0 _)).back (n:=x.n.toNat) hle
       simpa using this
      ·rw[zv2,Nat.add_zero,List.getElem?_append_right (zv0 _),Nat.sub_self]
       exact ha1
    | succ j=>
      have:=h3 j y (by simpa using hy);rw[show pre.length+(j+1)=pre.length+1+j by omega];exact this
structure Formed (t:List Nd)(fr:List Nat):Prop where
 len:fr.length=t.length
 pos:0<t.length
 node:∀(j:Nat) x,t[j]?=some x→0≤x.n∧Back fr x.n.toNat j∧fr.getD j 0≤j
theorem zar {t:List Nd}{fr:List Nat}(h:zah t=some fr):Formed t fr:=by
 unfold zah at h
 split at h
 ·rename_i f s hb
  obtain rfl:=zv4 h;obtain⟨h1,h2,h3⟩:=zdG t [] [] hb trivial;refine⟨h1,?_,fun j x hx=>by simpa using h3 j x hx⟩;have:=h2.1;simp at this;omega
 ·cases h
def exprK (k:Int):Bool:=decide (1≤k∧k≤17)
def stmtK (k:Int):Bool:=decide (20≤k∧k≤32∧k≠22)
def mayN (k:Int)(i:Nat)(q:Int):Bool:=
 if exprK k=true∨k=20∨k=32∨k=22 then exprK q
 else if k=26 then (if i=0 then decide (q=20∨q=22∨q=33) else if i=3 then stmtK q else exprK q || decide (q=33))
 else if k=21 then stmtK q || decide (q=22)
 else if k=25 then (if i=0 then stmtK q else exprK q)
 else if k=23∨k=24∨k=27∨k=28 then (if i=0 then exprK q else stmtK q)
 else stmtK q
def kindAt (t:List Nd)(k:Nat):Int:=(t[k]?.map Nd.kind).getD 0
def partsAt (t:List Nd)(fr:List Nat)(k:Nat):List Nat:=zby fr ((t[k]?.map fun x=>x.n.toNat).getD 0) k
def zgm (t:List Nd)(fr:List Nat):Nat→Nat→Bool
 | 0,_=>false
 | m+1,k=>
   let p:=partsAt t fr k
   if kindAt t k=23 then decide (p.length=2) || zgm t fr m (p.getD 2 0)
   else if kindAt t k=24∨kindAt t k=26∨kindAt t k=27∨kindAt t k=28∨kindAt t k=29 then zgm t fr m (p.getD (p.length-1) 0)
   else false
def zc6 (t:List Nd)(fr:List Nat)(k:Nat):Bool:=zgm t fr (k+1) k
def zde (t:List Nd)(k:Int):Nat→List Nat→Bool
 | _,[]=>true
 | i,p :: l=>mayN k i (kindAt t p) && zde t k (i+1) l
def fitsN (t:List Nd)(fr:List Nat)(k:Nat):Bool:=
 zde t (kindAt t k) 0 (partsAt t fr k) && (decide (kindAt t k≠23) || (decide ((partsAt t fr k).length<3) || !zc6 t fr ((partsAt t fr k).getD 1 0)))
def zq6:List Nd→List Nat→List Nat
 | [],st=>st
 | x :: l,st=>zq6 l (((st.take x.n.toNat).foldl max 0+1) :: st.drop x.n.toNat)
def deepN (t:List Nd):Nat:=(zq6 t []).getD 0 0
def checkN9 (t:List Nd):Int:=
 if 4096<t.length then 3
 else if t.all wellN=false then 90
 else match zah t with
  | none=>90
  | some fr=>if (List.range t.length).all (fitsN t fr)=false then 90 else if 48<deepN t then 3 else 0
end Go.Proofs.YtbbaooeioogijaaGreatDoor
namespace Go.Proofs.YtbbaooeioogijaaGreatDoor
open Go.ChangeShapes Go.WideShapes Go.ChangeAt Go.RowKit Go.Deep
set_option maxRecDepth 100000
def IsSl {α:Type}(k:Nat)(cells:α→List Value)(B:Nat)(w:World)(a:Option Addr)(L:List α):Prop:=
 L≠[]→∃b off,a=some ⟨b,off,none⟩∧b<B∧∀(i:Nat) t,L[i]?=some t→∀(j:Nat) u,(cells t)[j]?=some u→w.cell? ⟨b,off+i*k+j,none⟩=some u
theorem IsSl.below {α:Type}{k:Nat}{cells:α→List Value}{B B':Nat}{w w':World}{a:Option Addr}{L:List α}(h:IsSl k cells B w a L)(hb:Below B' w w')(hB:B≤B'):IsSl k cells B w' a L:=fun hn=>by
 obtain⟨b,off,rfl,hlt,hc⟩:=h hn;exact⟨b,off,rfl,hlt,fun i t ht j u hu=>by rw[hb.cell (show b<B' by omega)];exact hc i t ht j u hu⟩
theorem IsSl.mono {α:Type}{k:Nat}{cells:α→List Value}{B B':Nat}{w:World}{a:Option Addr}{L:List α}(h:IsSl k cells B w a L)(hB:B≤B'):IsSl k cells B' w a L:=fun hn=>by
 obtain⟨b,off,rfl,hlt,hc⟩:=h hn;exact⟨b,off,rfl,by omega,hc⟩
theorem zm7 {α:Type}{k:Nat}{cells:α→List Value}{B:Nat}{w:World}{a:Option Addr}:IsSl k cells B w a []:=fun h=>absurd rfl h
section
variable {H:Type} {enc:TypeId × Value→H} {w:World} {base:Nat} {spare:Nat→Bool} {held:Bool}
theorem zcF {t e:TypeId}{k:Nat}(hk0:0<k)(ht:Tryz.prog.underlying t=some (.slice e))(hk:Tryz.prog.cellsOf e=k){α:Type}(cells:α→List Value)(data:α→DataW H)(Ok:α→Prop)
 (hel:∀{n:Nat} {cs:List Value} {D:DataW H} {pl:List MemPlace},DataW.trod enc Tryz.prog w base spare held n e cs=some (D,pl)→∃a,cs=cells a∧D=data a∧Ok a)
 {fuel:Nat} {v:Value} {x:DataW H × List MemPlace} (h:DataW.trod enc Tryz.prog w base spare held fuel t [v]=some x) :
 ∃(a:Option Addr) (cap:Nat) (L:List α),v=.slice a L.length cap∧L.length≤cap∧cap≤maxLen∧(a=none→L=[]∧cap=0)∧((x.1=.nil∧L=[])∨∃rest,x.1=.slice (L.map data) rest)∧IsSl k cells w.heap.size w a L∧∀t ∈ L,Ok t:=by
 rcases open_slice ht h with ⟨hv,hx⟩|⟨a,len,cap,m,n,D,Pl,hv,_,hl,hcm,hm,hx,hi⟩
 ·exact⟨none,0,[],by simpa using hv,Nat.zero_le _,Nat.zero_le _,fun _=>⟨rfl,rfl⟩,.inl ⟨by rw[hx],rfl⟩,zm7,fun t ht=>by cases ht⟩
 ·have hlm:len≤m:=by rw[hm];split<;>omega
  have hD:∀i,i<len→∃t:α,D i=data t∧Ok t∧(cells t).length=k∧∀j,j<k→w.cell? ((a.add (i*k)).add j)=(cells t)[j]?:=fun i hlt=>by
   obtain⟨cs',hc,ht⟩:=hi i (by omega);obtain⟨t,rfl,hd,hok⟩:=hel ht;rw[hk]at hc;exact⟨t,hd,hok,(World.cells?_some hc).2⟩
  have key:∀q,q≤len→∃L:List α,L.length=q∧(List.range q).map D=L.map data∧∀(i:Nat) t,L[i]?=some t→Ok t∧(cells t).length=k∧∀j,j<k→w.cell? ((a.add (i*k)).add j)=(cells t)[j]?:=by
   intro q
   induction q with
   | zero=>intro _;exact⟨[],rfl,rfl,fun i t hi=>by simp at hi⟩
   | succ q ih=>
     intro hq;obtain⟨L,hL,hm',hc⟩:=ih (by omega);obtain⟨t,hd,hok,hcell⟩:=hD q (by omega);refine⟨L++[t],by simp[hL],by rw[List.range_succ,List.map_append,List.map_append,hm'];simp[hd],fun i u hu=>?_⟩;rcases Nat.lt_or_ge i L.length with h'|h'
     ·rw[List.getElem?_append_left h']at hu;exact hc i u hu
     ·rw[List.getElem?_append_right h']at hu
      have hi0:i-L.length=0:=by
       rcases Nat.eq_zero_or_pos (i-L.length) with h0|h0
       ·exact h0
       ·rw[List.getElem?_eq_none (by simp;omega)]at hu;cases hu
      rw[hi0]at hu;obtain rfl:=zv4 hu;obtain rfl:i=q:=by omega
      exact⟨hok,hcell⟩
  obtain⟨L,hL,hm',hc⟩:=key len (zv0 _);subst hL;refine⟨some a,cap,L,by simpa using hv,hl,hcm,(fun h=>by cases h),.inr ⟨_,by rw[hx,hm']⟩,fun hne=>?_,fun t ht=>?_⟩
  ·obtain⟨b,off,sp⟩:=a
   have h0:0<L.length:=zwc hne;have hsp:sp=none:=by
    obtain⟨_,hlk,hat⟩:=hc 0 _ (zv1 h0);have h:=hat 0 hk0;rw[zv1 (by omega)]at h;simp only[Nat.zero_mul,Addr.add,if_true,World.cell?]at h;cases sp with
    | none=>rfl
    | some z=>
      exfalso
      simp at h
      split at h<;>simp at h
   subst hsp;have hadd:∀i j,(((⟨b,off,none⟩:Addr).add i).add j)=⟨b,off+i+j,none⟩:=by
    intro i j;unfold Addr.add
    split<;>split<;>simp_all
   have hall:∀(i:Nat) t,L[i]?=some t→∀(j:Nat) u,(cells t)[j]?=some u→w.cell? ⟨b,off+i*k+j,none⟩=some u:=fun i t ht j u hu=>by
    obtain⟨_,hlk,hat⟩:=hc i t ht;have hj:j<k:=by obtain⟨h1,_⟩:=List.getElem?_eq_some_iff.1 hu;omega
    have:=hat j hj;rw[hadd]at this;rw[this,hu]
   refine⟨b,off,rfl,?_,hall⟩;obtain⟨_,hlk,_⟩:=hc 0 _ (zv1 h0);exact World.block_lt_of_cell? w _ (hall 0 _ (zv1 h0) 0 _ (zv1 (by omega)))
  ·obtain⟨i,hi,rfl⟩:=List.getElem_of_mem ht
   exact(hc i _ (zv1 hi)).1
end
set_option maxHeartbeats 400000
def zcG (x:Nd):List Value:=[.int .i64 x.kind,.int .i64 x.n,.int .i64 x.at_,.int .i64 x.int,.string x.text,.string x.type]
def ndV (x:Nd):Value:=.agg #[.int .i64 x.kind,.int .i64 x.n,.int .i64 x.at_,.int .i64 x.int,.string x.text,.string x.type]
abbrev zaR (x:Nd):Obj:=.cells #[.int .i64 x.kind,.int .i64 x.n,.int .i64 x.at_,.int .i64 x.int,.string x.text,.string x.type] 47
theorem zal {w:World}{b:Nat}{a0 a1 a2 a3 a4 a5:Value}{T:TypeId}(h:w.heap[b]?=some (.cells #[a0,a1,a2,a3,a4,a5] T (0,0))) :
 (w.cell? ⟨b,0,none⟩=some a0∧w.cell? ⟨b,1,none⟩=some a1∧w.cell? ⟨b,2,none⟩=some a2∧w.cell? ⟨b,3,none⟩=some a3∧w.cell? ⟨b,4,none⟩=some a4∧w.cell? ⟨b,5,none⟩=some a5)∧∀j,w.frozen? ⟨b,j,none⟩=false:=by
 refine⟨⟨?_,?_,?_,?_,?_,?_⟩,fun j=>?_⟩<;>simp[World.cell?,World.frozen?,h]
abbrev zaV (B:Nat)(w:World)(a:Option Addr)(t:List Nd):Prop:=IsSl 6 zcG B w a t
theorem zbg {B:Nat}{w:World}{a:Option Addr}{t:List Nd}(h:zaV B w a t){i:Nat}(hi:i<t.length):∃b off,a=some ⟨b,off,none⟩∧b<B ∧
 w.cell? ⟨b,off+i*6,none⟩=some (.int .i64 t[i].kind)∧w.cell? ⟨b,off+i*6+1,none⟩=some (.int .i64 t[i].n)∧w.cell? ⟨b,off+i*6+2,none⟩=some (.int .i64 t[i].at_)∧w.cell? ⟨b,off+i*6+3,none⟩=some (.int .i64 t[i].int)∧w.cell? ⟨b,off+i*6+4,none⟩=some (.string t[i].text)∧w.cell? ⟨b,off+i*6+5,none⟩=some (.string t[i].type):=by
 obtain⟨b,off,e,hlt,hc⟩:=h (fun e=>by rw[e]at hi;simp at hi);have hx:=zv1 hi;exact⟨b,off,e,hlt,hc i _ hx 0 _ rfl,hc i _ hx 1 _ rfl,hc i _ hx 2 _ rfl,hc i _ hx 3 _ rfl,hc i _ hx 4 _ rfl,hc i _ hx 5 _ rfl⟩
section
variable {H:Type} {enc:TypeId × Value→H} {w:World} {base:Nat} {spare:Nat→Bool} {held:Bool}
def zp4 (x:Nd):DataW H:=.agg [.lit (.int .i64 x.kind),.lit (.int .i64 x.n),.lit (.int .i64 x.at_),.lit (.int .i64 x.int),.lit (.string x.text.data.toList),.lit (.string x.type.data.toList)]
theorem zrj:Tryz.prog.cellsOf 47=6:=by kernel_rfl
theorem zuU:Tryz.prog.cellsOf 3=1:=by kernel_rfl
theorem zuS:Tryz.prog.cellsOf 9=1:=by kernel_rfl
theorem zuQ:Tryz.prog.cellsOf 40=1:=by kernel_rfl
def zi7 (n:Int):Prop:=-9223372036854775808≤n∧n≤9223372036854775807
def NdOk (x:Nd):Prop:=zi7 x.kind∧zi7 x.n∧zi7 x.at_∧zi7 x.int
theorem zuj {n:Nat}{cs:List Value}{D:DataW H}{pl:List MemPlace}(h:DataW.trod enc Tryz.prog w base spare held n 47 cs=some (D,pl)) :
 ∃x:Nd,cs=zcG x∧D=zp4 x∧NdOk x:=by
 obtain⟨xs,n',_,hx,hlen,hxs,hf⟩:=DataW.trod_struct Tryz.underlying47 h;rw[zrj]at hlen
 match cs,hlen with
 | [c0,c1,c2,c3,c4,c5],_=>
   match xs,hxs with
   | [y0,y1,y2,y3,y4,y5],_=>
     have f0:=hf 0 _ rfl;have f1:=hf 1 _ rfl;have f2:=hf 2 _ rfl;have f3:=hf 3 _ rfl;have f4:=hf 4 _ rfl;have f5:=hf 5 _ rfl;simp[zuU]at f0 f1 f2 f3;simp[zuS]at f4;simp[zuQ]at f5;obtain⟨a0,e0,r0,w0⟩:=DataW.trod_int Tryz.underlying3 f0;obtain⟨a1,e1,r1,w1⟩:=DataW.trod_int Tryz.underlying3 f1;obtain⟨a2,e2,r2,w2⟩:=DataW.trod_int Tryz.underlying3 f2;obtain⟨a3,e3,r3,w3⟩:=DataW.trod_int Tryz.underlying3 f3;obtain⟨a4,e4,r4,_⟩:=DataW.trod_string Tryz.underlying9 f4;obtain⟨a5,e5,r5,_⟩:=DataW.trod_string Tryz.underlying40 f5;simp only[List.cons.injEq,and_true]at e0 e1 e2 e3 e4 e5;subst e0 e1 e2 e3 e4 e5 r0 r1 r2 r3 r4 r5;exact⟨⟨a0,a1,a2,a3,a4,a5⟩,rfl,congrArg Prod.fst hx,bounds_i64 w0,bounds_i64 w1,bounds_i64 w2,bounds_i64 w3⟩
theorem zpR {fuel:Nat}{v:Value}{x:DataW H × List MemPlace}(h:DataW.trod enc Tryz.prog w base spare held fuel 43 [v]=some x) :
 ∃(a:Option Addr) (cap:Nat) (Q:List Nd),v=.slice a Q.length cap∧Q.length≤cap∧cap≤maxLen∧(a=none→Q=[]∧cap=0)∧((x.1=.nil∧Q=[])∨∃rest,x.1=.slice (Q.map zp4) rest)∧zaV w.heap.size w a Q∧∀q ∈ Q,NdOk q:=
 zcF (by decide) Tryz.underlying43 zrj zcG zp4 NdOk (fun h=>zuj h) h
end
end Go.Proofs.YtbbaooeioogijaaGreatDoor
namespace Go.Proofs.YtbbaooeioogijaaGreatDoor
open Go.RowKit
set_option maxRecDepth 100000
theorem zfj {α:Type}{k:Nat}{cells:α→List Value}(hk:∀a,(cells a).length=k):∀L:List α,(L.flatMap cells).length=L.length*k
 | []=>by simp
 | a :: L=>by rw[List.flatMap_cons,List.length_append,hk,zfj hk L,List.length_cons,Nat.add_mul];omega
theorem zjd {α:Type}{k:Nat}{cells:α→List Value}(hk:∀a,(cells a).length=k):∀{L:List α} {i j:Nat} {a:α} {u:Value},L[i]?=some a→(cells a)[j]?=some u→(L.flatMap cells)[i*k+j]?=some u
 | [],_,_,_,_,h,_=>by simp at h
 | b :: L,0,j,a,u,h,hu=>by
   obtain rfl:=zv4 h;have hj:=(List.getElem?_eq_some_iff.1 hu).1;rw[List.flatMap_cons,Nat.zero_mul,Nat.zero_add,List.getElem?_append_left hj];exact hu
 | b :: L,i+1,j,a,u,h,hu=>by
   rw[List.flatMap_cons,List.getElem?_append_right (by rw[hk,Nat.add_mul];omega),hk,show (i+1)*k+j-k=i*k+j by rw[Nat.add_mul];omega];exact zjd hk (by simpa using h) hu
theorem zng {α:Type}{k:Nat}{cells:α→List Value}(hk:∀a,(cells a).length=k):∀{L:List α} {q:Nat} {u:Value},(L.flatMap cells)[q]?=some u→∃(i j:Nat) (a:α),q=i*k+j∧L[i]?=some a∧(cells a)[j]?=some u
 | [],_,_,h=>by simp at h
 | b :: L,q,u,h=>by
   rw[List.flatMap_cons]at h;rcases Nat.lt_or_ge q (cells b).length with hlt|hge
   ·rw[List.getElem?_append_left hlt]at h
    exact⟨0,q,b,by omega,rfl,h⟩
   ·rw[List.getElem?_append_right hge,hk]at h
    obtain⟨i,j,a,e,h1,h2⟩:=zng hk h;rw[hk]at hge;exact⟨i+1,j,a,by rw[Nat.add_mul];omega,by simpa using h1,h2⟩
theorem addN (b off j:Nat):(⟨b,off,none⟩:Addr).add j=⟨b,off+j,none⟩:=by unfold Addr.add;split<;>simp_all
theorem ziR {α:Type}{k:Nat}{cells:α→List Value}(hk:∀a,(cells a).length=k){B:Nat}{w:World}{ad:Addr}{L:List α}(h:IsSl k cells B w (some ad) L):∀(q:Nat) u,(L.flatMap cells)[q]?=some u→w.cell? (ad.add q)=some u:=fun q u hu=>by
 obtain⟨i,j,a,rfl,ha,hj⟩:=zng hk hu;obtain⟨b,off,e,_,hc⟩:=h (fun e=>by rw[e]at ha;simp at ha);obtain rfl:=zv4 e;rw[addN,← Nat.add_assoc];exact hc i a ha j u hj
theorem zpM {α:Type}{k:Nat}{cells:α→List Value}(hk:∀a,(cells a).length=k){w:World}{base n:Nat}{T:TypeId}{v:Value}{L:List α}(h:w.ownsRow base T k v n (L.flatMap cells))(hn:n=L.length):∃a cap,v=.slice a L.length cap∧IsSl k cells w.heap.size w a L∧(a=none→L=[]∧cap=0):=by
 subst hn;rcases h.2 with ⟨rfl,h0⟩|⟨g,cap,cur,rfl,_,hg,_⟩
 ·have:L=[]:=List.eq_nil_of_length_eq_zero h0
  subst this;exact⟨none,0,rfl,zm7,fun _=>⟨rfl,rfl⟩⟩
 ·refine⟨_,cap,rfl,fun _=>⟨g,0,rfl,zaa hg,fun i a ha j u hu=>?_⟩,fun h=>by cases h⟩
  have:=h.cells (g:=g) rfl _ _ (zjd hk ha hu);rw[addN,← Nat.add_assoc]at this;exact this
theorem zfb {α:Type}{k:Nat}{cells:α→List Value}(hk:∀a,(cells a).length=k){w:World}{base n g cap:Nat}{T:TypeId}{L:List α}(h:w.ownsRow base T k (.slice (some ⟨g,0,none⟩) n cap) n (L.flatMap cells)){i j:Nat}{a:α}{u:Value}(ha:L[i]?=some a)(hu:(cells a)[j]?=some u):w.cell? ⟨g,i*k+j,none⟩=some u:=by
 have:=h.cells (g:=g) rfl _ _ (zjd hk ha hu);rw[addN,Nat.zero_add]at this;exact this
theorem ziW {w:World}{base n g cap size:Nat}{T:TypeId}{xs:List Value}(h:w.ownsRow base T size (.slice (some ⟨g,0,none⟩) n cap) n xs){m:Nat}(hm:m≤n):w.ownsRow base T size (.slice (some ⟨g,0,none⟩) m cap) m (xs.take (m*size)):=by
 obtain⟨h1,h2|⟨g',cap',cur,e,hb,hg,hnc,hcm,hcs,ht⟩⟩:=h
 ·simp at h2
 ·simp only[Value.slice.injEq,Option.some.injEq,Addr.mk.injEq,and_true,true_and]at e
  obtain⟨rfl,rfl⟩:=e;have hle:m*size≤n*size:=Nat.mul_le_mul_right size hm;refine⟨by rw[List.length_take];omega,.inr ⟨g,cap,cur,rfl,hb,hg,by omega,hcm,hcs,?_⟩⟩;rw[← ht,List.take_take,Nat.min_eq_left hle]
def isC (c:UInt8):Ty→Bool
 | .base d=>decide (d=c)
 | _=>false
def zhL (r:Option Ty)(w:World)(e:Ending)(w':World):Prop:=
 (match r with
   | none=>e=.returned (.tuple #[.string ⟨#[]⟩,.slice none 0 0,.int .i64 2])
   | some (.fn ps r)=>∃v,e=.returned (.tuple #[.string (tyB r),v,.int .i64 0])∧w'.ownsRow w.heap.size 40 1 v ps.length (ps.map fun p=>.string (tyB p))
   | some _=>e=.returned (.tuple #[.string ⟨#[]⟩,.slice none 0 0,.int .i64 5]))∧Below w.heap.size w w'
theorem zaM {c:UInt8}(h:zbz c=true):c=118∨c=99∨c=115∨c=105∨c=117∨c=106:=by
 unfold zbz at h;rw[List.contains_iff_mem]at h;simpa using h
def headT:Ty→UInt8
 | .base c=>c
 | .ptr _=>112
 | .arr _ _=>97
 | .str _=>83
 | .fn _ _=>102
theorem zau (t:Ty):∃h:0<(tyB t).size,(tyB t)[0]=headT t:=by
 cases t with
 | base c=>exact zbW (t:=.base c) rfl
 | ptr u=>exact zbW (t:=.ptr u) rfl
 | arr n u=>exact zbW (t:=.arr n u) rfl
 | str n=>exact zbW (t:=.str n) rfl
 | fn ps r=>exact zbW (t:=.fn ps r) rfl
theorem zum {s:ByteArray}{h:0<s.size}{c d:UInt8}(hc:s[0]=c)(hd:c≠d):((s[0].toNat:Int) != (d.toNat:Int))=true:=by
 rw[hc,bne_iff_ne];intro e;exact hd (UInt8.toNat_inj.1 (by omega))
theorem zsJ {s:ByteArray}{h:0<s.size}{c:UInt8}(hc:s[0]=c):((s[0].toNat:Int) != (c.toNat:Int))=false:=by rw[hc];simp
theorem zaj {s:ByteArray}{h:0<s.size}{c d:UInt8}(hc:s[0]=c)(hd:c≠d):((s[0].toNat:Int) == (d.toNat:Int))=false:=by
 rw[hc,zwa];intro e;exact hd (UInt8.toNat_inj.1 (by omega))
theorem zcY {s:ByteArray}{h:0<s.size}{c:UInt8}(hc:s[0]=c):((s[0].toNat:Int) == (c.toNat:Int))=true:=by rw[hc];simp
theorem ziI (a b y:ByteArray)(hy:a++b=y)(h:a.size+b.size≤9223372036854775807):∀w,(Op.stringOp .add a b).run Tryz.prog w=.ok (.string y) w:=fun w=>by rw[← hy];exact run_string_add_sum w a b h
theorem zib {t:Ty}(h:zaD t)(c:UInt8):((tyB t).toList == [c])=isC c t:=by
 rw[zbp,Bool.eq_iff_iff,decide_eq_true_iff,zsB h];cases t<;>simp[isC]
def strB (l:List UInt8):ByteArray:=⟨l.toArray⟩
theorem zgI (l:List UInt8):(strB l).data.toList=l:=by simp[strB]
theorem zpe (l:List UInt8):(strB l).size=l.length:=by simp[strB,ByteArray.size]
theorem zlj {x:ByteArray}{l:List UInt8}(h:x.data.toList=l):x=strB l:=zaT (by rw[h,zgI])
theorem zqE {t:Ty}(h:zaD t):(((headT t).toNat:Int) == 102)=isFnT t:=by
 cases t with
 | base c=>rcases zaM h with rfl|rfl|rfl|rfl|rfl|rfl<;>rfl
 | _=>rfl
theorem zaI {w:World}{base:Nat}{e:TypeId}{size:Nat}{v:Value}{n:Nat}{xs:List Value}(h:w.ownsRow base e size v n xs):∃a cap,v=.slice a n cap∧(0<n→∃g,a=some ⟨g,0,none⟩∧base≤g∧g<w.heap.size∧∀j u,xs[j]?=some u→w.cell? ⟨g,j,none⟩=some u):=by
 rcases h.2 with ⟨rfl,rfl⟩|⟨g,cap,cur,rfl,hb,hg,_⟩
 ·exact⟨_,_,rfl,fun h=>by omega⟩
 ·refine⟨_,_,rfl,fun _=>⟨g,rfl,hb,zaa hg,fun j u hj=>?_⟩⟩
  have:=h.cells (g:=g) rfl j u hj
  rwa [zjt]at this
theorem zdj:∀{l:List Ty} {t:Ty},t ∈ l→(code t).length≤(zbw l).length
 | [],_,h=>by cases h
 | u :: [],t,h=>by
   rcases List.mem_cons.1 h with rfl|e
   ·rw[zbw];simp
   ·cases e
 | u :: v :: l,t,h=>by
   rw[zaO,zbs];rcases List.mem_cons.1 h with rfl|e
   ·simp
   ·have:=zdj e
    simp;omega
set_option maxHeartbeats 2000000
def zch (t:Ty):Prop:=∀w,TE w→Calls Tryz.prog 131 #[.string (tyB t)] w fun e w'=>e=.returned (.bool (shapeT t))∧Below w.heap.size w w'
theorem zt3 {t:Ty}(hr:zaD t)(hl:(code t).length≤65536):tyS (tyB t)=some t:=zaW.2 ⟨rfl,hr,hl⟩
theorem zhe (r:Bool){t:Ty}(w:World)(hE:TE w)(hr:zaD t)(hl:(code t).length≤65536)(h:zap t=r):Calls Tryz.prog 144 #[.string (tyB t)] w fun e w'=>e=.returned (.bool r)∧Below w.heap.size w w':=by
 have:=zl1 (tyB t) w hE;rw[show zbk (tyB t)=zap t by unfold zbk;rw[zt3 hr hl];rfl,h]at this;exact this
theorem zpv (p:Ty)(w:World)(hE:TE w)(hr:zaD p)(hl:(code p).length≤65536)(ih:zch p) :
 Calls Tryz.prog 146 #[.string (tyB p)] w fun e w'=>e=.returned (.bool (!(zap p && shapeT p)))∧Below w.heap.size w w':=by
 have HE:=Hd hE;unfold zch at ih;have HI:=Hd ih;rcases hs:zap p with _|_
 ·have H:=Hd (zhe false w hE hr hl hs)
  clear hs hE ih
  go_enter Tryz.func146,Tryz.ntmps146
  go_wp2_with (go_at_call 144;(with_reducible refine H.out.mono ?_);rintro e w1 ⟨rfl,hb1⟩)
  go_ret;exact⟨rfl,hb1⟩
 ·have H:=Hd (zhe true w hE hr hl hs)
  clear hs hE ih;generalize hsh:shapeT p=b at *;have HSh:=Hd hsh;clear hsh
  go_enter Tryz.func146,Tryz.ntmps146
  go_wp2_with (go_at_call 144;(with_reducible refine H.out.mono ?_))
  rintro e w1 ⟨rfl,hb1⟩
  go_wp2_with (go_at_call 131;(with_reducible refine(HI.out _ (HE.out.below hb1)).mono ?_))
  rintro e w2 ⟨rfl,hb2⟩
  go_wp2_with fail
  go_ret;exact⟨by simp,hb1.trans (hb2.mono hb1.size)⟩
theorem zfz (l:List Ty):zbL l=l.all fun p=>zap p && shapeT p:=by
 induction l with
 | nil=>rfl
 | cons t l ih=>rw[zbL,ih];rfl
theorem zpt (ps:List Ty)(g cap:Nat)(w:World)(hE:TE w)(hg:g<w.heap.size)(hr:zez ps)(hl:∀p ∈ ps,(code p).length≤65536)(ih:∀p ∈ ps,zch p)(hn:ps.length≤65536)
 (hc:∀j (hj:j<ps.length),w.cell? ⟨g,j,none⟩=some (.string (tyB ps[j]))) :
 Calls Tryz.prog 154 #[.slice (some ⟨g,0,none⟩) ps.length cap,.func (.func 146) #[] #[]] w fun e w'=>∃o:Int,e=.returned (.int .i64 o)∧decide (0≤o)=!zbL ps∧Below w.heap.size w w':=by
 have HE:=Hd hE;have HC:=Hd hc;have HI:=Hd ih;have HL:=Hd hl;have HR:=Hd hr;clear hE hc ih hl hr
 go_enter Tryz.func154,Tryz.ntmps154
 go_wp2_with fail
 go_loopw [8] (fun i wr=>∃k:Nat,k≤ps.length∧i=.int .i64 k∧Hid (∀j (hj:j<ps.length),j<k→(zap ps[j] && shapeT ps[j])=true)∧Below w.heap.size w wr) (fun i _=>ps.length-(intOf i).toNat)
 case atStart=>exact⟨0,Nat.zero_le _,rfl,fun j _ h=>by omega,zv3 _ _⟩
 case round=>
  obtain⟨k,hk,rfl,hno,hb⟩:=hrel;have HB:=Hd hb;have hsz:=hb.size
  by_cases hlt:k<ps.length
  ·have hck:wr.cell? ⟨g,k,none⟩=some (.string (tyB ps[k])):=by
    rw[hb.cell (p:=⟨g,k,none⟩) hg];exact HC.out k hlt
   have hm:ps[k] ∈ ps:=zwb hlt
   have HD:=Hd (zpv ps[k] wr (HE.out.below hb) (by
    obtain⟨a,b,e⟩:=List.append_of_mem hm;have h:=HR.out;rw[e]at h
    exact zcC h) (HL.out _ hm) (HI.out _ hm))
   clear hb hm;rcases hgd:(zap ps[k] && shapeT ps[k]) with _|_
   ·have hfin:=Hd (show zbL ps=false by
     rw[zfz,Bool.eq_false_iff];intro e;have:=List.all_eq_true.1 e ps[k] (zwb hlt)
     rw[hgd]at this;cases this)
    rw[hgd]at HD;generalize tyB ps[k]=st at *;clear hgd
    go_wp2_with (go_at_call 146;(with_reducible refine HD.out.mono ?_))
    rintro e w2 ⟨rfl,hb2⟩
    go_wp2_with fail
    go_ret;exact⟨_,rfl,by rw[hfin.out];simp,HB.out.trans (hb2.mono hsz)⟩
   ·have HN:=Hd (show ∀j (hj:j<ps.length),j<k+1→(zap ps[j] && shapeT ps[j])=true from fun j hj h=>by
     rcases Nat.lt_or_ge j k with h'|h'
     ·exact hno.out j hj h'
     ·obtain rfl:j=k:=by omega
      exact hgd)
    rw[hgd]at HD;generalize tyB ps[k]=st at *;clear hgd
    go_wp2_with (go_at_call 146;(with_reducible refine HD.out.mono ?_))
    rintro e w2 ⟨rfl,hb2⟩;have HB2:=Hd (HB.out.trans (hb2.mono hsz));clear hb2
    go_wp2_with fail
    go_roundw
    case rel=>exact⟨k+1,by omega,by go_num,HN,HB2.out⟩
    case measure=>simp[intOf];omega
  ·obtain rfl:k=ps.length:=by omega
   have hfin:=Hd (show zbL ps=true by
    rw[zfz,List.all_eq_true];intro p hp;obtain⟨j,hj,rfl⟩:=List.getElem_of_mem hp
    exact hno.out j hj hj)
   clear hno hb
   go_wp2_with fail
   go_ret;exact⟨-1,rfl,by rw[hfin.out];rfl,HB.out⟩
theorem zqC (a:Option Addr)(cap:Nat)(f:Value)(w:World):Calls Tryz.prog 154 #[.slice a 0 cap,f] w fun e w'=>e=.returned (.int .i64 (-1))∧w'=w:=by
 go_enter Tryz.func154,Tryz.ntmps154
 go_wp2_with fail
 go_loop [8] (fun i=>i=.int .i64 0) (fun _=>0)
 case atStart=>rfl
 case round=>
  obtain rfl:=hrel
  go_wp2_with fail
  go_ret;exact⟨rfl,rfl⟩
theorem zpu (ps:List Ty)(v:Value)(n:Nat)(B:Nat)(w:World)(hE:TE w)(hB:w.ownsRow B 40 1 v n (ps.map fun p=>.string (tyB p)))(hn:n=ps.length)(hr:zez ps)(hl:∀p ∈ ps,(code p).length≤65536)(ih:∀p ∈ ps,zch p)(hnl:ps.length≤65536) :
 Calls Tryz.prog 145 #[v,.func (.func 146) #[] #[]] w fun e w'=>e=.returned (.bool (!zbL ps))∧Below w.heap.size w w':=by
 obtain⟨a,cap,rfl,hrow⟩:=zaI hB;subst hn
 by_cases h0:ps=[]
 ·subst h0
  clear hE hB hr hl ih hrow hnl
  go_enter Tryz.func145,Tryz.ntmps145
  go_wp2_with (go_at_call 154;(with_reducible refine(zqC _ _ _ _).mono ?_);rintro e w1 ⟨rfl,rfl⟩)
  go_ret;exact⟨rfl,zv3 _ _⟩
 ·obtain⟨g,rfl,hg1,hg2,hc⟩:=hrow (zwc h0)
  have H:=Hd (zpt ps g cap w hE hg2 hr hl ih hnl (fun j hj=>hc j _ (by rw[List.getElem?_map,zv1 hj];rfl)));clear hE hB hr hl ih hrow hc
  go_enter Tryz.func145,Tryz.ntmps145
  go_wp2_with (go_at_call 154;(with_reducible refine H.out.mono ?_);rintro e w1 ⟨o,rfl,ho,hb1⟩;have HO:=Hd ho;clear ho)
  go_ret;exact⟨by rw[← HO.out];rfl,hb1⟩
set_option maxHeartbeats 4000000
theorem zps (u:Ty)(_hr:zaD u)(ih:zch u):zch (.ptr u):=by
 intro w hE;unfold zch at ih;have HI:=Hd (ih w hE);have hs:shapeT (.ptr u)=shapeT u:=by rw[shapeT]
 rw[hs];obtain⟨h0,hc⟩:=zau (.ptr u);have HX:=Hd (ziL (t:=.ptr u) (u:=u) (k:=1) rfl);have t1:(((tyB (.ptr u))[0].toNat:Int) == 112)=true:=zcY hc;generalize tyB (.ptr u)=s at *;have h1:(1:Int)≤s.size:=by omega
 generalize shapeT u=b at *;clear hc hE ih hs _hr
 go_enter Tryz.func131,Tryz.ntmps131
 go_wp2_with fail
 rw[HX.out];refine HI.out.mono ?_;rintro e w1 ⟨rfl,hb1⟩
 go_wp2_with fail
 go_ret;exact⟨rfl,hb1⟩
theorem zhY (t:Ty)(h1:headT t≠112)(h2:headT t≠97)(h3:headT t≠102)(hs:shapeT t=true):zch t:=by
 intro w hE;rw[hs];obtain⟨h0,hc⟩:=zau t;have t1:(((tyB t)[0].toNat:Int) == 112)=false:=zaj (d:=112) hc h1;have t2:(((tyB t)[0].toNat:Int) == 97)=false:=zaj (d:=97) hc h2;have t3:(((tyB t)[0].toNat:Int) == 102)=false:=zaj (d:=102) hc h3;generalize tyB t=s at *;clear hc hE h1 h2 h3 hs
 go_enter Tryz.func131,Tryz.ntmps131
 go_wp2_with fail
 go_ret;exact⟨rfl,zv3 _ _⟩
theorem zcd {t:Ty}:zbE t=isC 118 t:=by cases t<;>rfl
theorem zfh {t:Ty}(h:zaD t):((((tyB t)[0]'(zau t).1).toNat:Int) == 102)=isFnT t:=by
 rw[(zau t).2];exact zqE h
theorem zpw (n:Nat)(u:Ty)(hr:zaD (.arr n u))(hl:(code (.arr n u)).length≤65536)(ih:zch u):zch (.arr n u):=by
 intro w hE;unfold zch at ih;have HE:=Hd hE;have HI:=Hd ih;have HS:=Hd (fun w hM=>ze2 n u w hr hM hl);obtain⟨h0,hc⟩:=zau (.arr n u);have t1:(((tyB (.arr n u))[0].toNat:Int) == 112)=false:=zaj (d:=112) hc (by simp[headT]);have t2:(((tyB (.arr n u))[0].toNat:Int) == 97)=true:=zcY hc;have hv:=zib hr.2 118;have hf:=zfh hr.2;have hu0:=(zau u).1;have hnb:(n:Int)≤1099511627776:=by have:=hr.1;omega
 have hsh:shapeT (.arr n u)=(decide (1≤n∧n≤65536) && (objectT u && shapeT u)):=by rw[shapeT]
 generalize tyB (.arr n u)=s at *;generalize hb:shapeT u=b at *;clear hc hE ih hr hl
 by_cases hn1:1≤n
 ·by_cases hn2:n≤65536
  ·have t3:(1:Int)≤n:=by omega
   have t4:(n:Int)≤65536:=by omega
   rcases h1:isC 118 u with _|_
   ·rw[h1]at hv
    have hv':((tyB u).toList != [118])=true:=by rw[bne,hv];rfl
    rcases h2:isFnT u with _|_
    ·have hfin:=Hd (show shapeT (.arr n u)=b by rw[hsh,objectT,zcd,h1,h2];simp[hn1,hn2])
     rw[h2]at hf;have hf':(((tyB u)[0].toNat:Int) != 102)=true:=by rw[bne,hf];rfl
     clear hsh h1 h2 hn1 hn2 hb
     go_enter Tryz.func131,Tryz.ntmps131
     go_wp2_with (go_at_call 113;(with_reducible refine(HS.out _ HE.out.maxl).mono ?_))
     rintro e w1 ⟨rfl,hb1⟩;have HI1:=Hd (HI.out _ (HE.out.below hb1))
     go_wp2_with (go_at_call 131;(with_reducible refine HI1.out.mono ?_))
     rintro e w2 ⟨rfl,hb2⟩
     go_wp2_with fail
     go_ret;exact⟨by rw[hfin.out];rfl,hb1.trans (hb2.mono hb1.size)⟩
    ·have hfin:=Hd (show shapeT (.arr n u)=false by rw[hsh,objectT,h2];simp)
     rw[h2]at hf;have hf':(((tyB u)[0].toNat:Int) != 102)=false:=by rw[bne,hf];rfl
     clear hsh h1 h2 hn1 hn2 hb
     go_enter Tryz.func131,Tryz.ntmps131
     go_wp2_with (go_at_call 113;(with_reducible refine(HS.out _ HE.out.maxl).mono ?_))
     rintro e w1 ⟨rfl,hb1⟩
     go_wp2_with fail
     go_ret;exact⟨by rw[hfin.out];rfl,hb1⟩
   ·have hfin:=Hd (show shapeT (.arr n u)=false by rw[hsh,objectT,zcd,h1];simp)
    rw[h1]at hv;have hv':((tyB u).toList != [118])=false:=by rw[bne,hv];rfl
    clear hsh h1 hn1 hn2 hb hf
    go_enter Tryz.func131,Tryz.ntmps131
    go_wp2_with (go_at_call 113;(with_reducible refine(HS.out _ HE.out.maxl).mono ?_))
    rintro e w1 ⟨rfl,hb1⟩
    go_wp2_with fail
    go_ret;exact⟨by rw[hfin.out];rfl,hb1⟩
  ·have hfin:=Hd (show shapeT (.arr n u)=false by rw[hsh];simp[hn2])
   have t3:(1:Int)≤n:=by omega
   have t4:decide ((n:Int)≤65536)=false:=by simp;omega
   clear hsh hn1 hn2 hb hf hv
   go_enter Tryz.func131,Tryz.ntmps131
   go_wp2_with (go_at_call 113;(with_reducible refine(HS.out _ HE.out.maxl).mono ?_))
   rintro e w1 ⟨rfl,hb1⟩
   go_wp2_with fail
   go_ret;exact⟨by rw[hfin.out];rfl,hb1⟩
 ·have hfin:=Hd (show shapeT (.arr n u)=false by rw[hsh];simp[hn1])
  have t3:decide ((1:Int)≤n)=false:=by simp;omega
  clear hsh hn1 hb hf hv
  go_enter Tryz.func131,Tryz.ntmps131
  go_wp2_with (go_at_call 113;(with_reducible refine(HS.out _ HE.out.maxl).mono ?_))
  rintro e w1 ⟨rfl,hb1⟩
  go_wp2_with fail
  go_ret;exact⟨by rw[hfin.out];rfl,hb1⟩
theorem zr9 (ps:List Ty)(r:Ty)(hr:zaD (.fn ps r))(hl:(code (.fn ps r)).length≤65536)(ih:∀p ∈ ps,zch p)(ihr:zch r):zch (.fn ps r):=by
 intro w hE;have hcl:(code (.fn ps r)).length=(zbw ps).length+(code r).length+3:=by rw[code];simp;omega
 have hlr:(code r).length≤65536:=by omega
 have hlp:∀p ∈ ps,(code p).length≤65536:=fun p hp=>by have:=zdj hp;omega
 have hnl:ps.length≤65536:=by have:=zcy hr.1;omega
 have HCF:=Hd (fun v B w hE hB=>zpu ps v ps.length B w hE hB rfl hr.1 hlp ih hnl);unfold zch at ihr;have HE:=Hd hE;have HI:=Hd ihr;have HS:=Hd (fun w hK hb=>ziQ ps r w hr hl hK hb);have HSc:=Hd (fun b w hE h=>zhe b w hE hr.2 hlr h);obtain⟨h0,hc⟩:=zau (.fn ps r);have t1:(((tyB (.fn ps r))[0].toNat:Int) == 112)=false:=zaj (d:=112) hc (by simp[headT]);have t2:(((tyB (.fn ps r))[0].toNat:Int) == 97)=false:=zaj (d:=97) hc (by simp[headT]);have t3:(((tyB (.fn ps r))[0].toNat:Int) == 102)=true:=zcY hc;have hv:=zib hr.2 118;have hsh:shapeT (.fn ps r)=(decide (ps.length≤8) && ((zbE r || zap r) && (shapeT r && zbL ps))):=by rw[shapeT]
 generalize tyB (.fn ps r)=s at *;clear hc hE ih ihr hr hl hcl hlr hlp
 by_cases hn:ps.length≤8
 ·have t4:(ps.length:Int)≤8:=by omega
  rcases h1:isC 118 r with _|_
  ·rw[h1]at hv
   have hv':((tyB r).toList != [118])=true:=by rw[bne,hv];rfl
   rcases h2:zap r with _|_
   ·have HScal:=Hd h2
    have hfin:=Hd (show shapeT (.fn ps r)=false by rw[hsh,zcd,h1,h2];simp);clear hsh h1 h2 hn
    go_enter Tryz.func131,Tryz.ntmps131
    go_wp2_with (go_at_call 113;(with_reducible refine(HS.out _ HE.out.keys HE.out.lt).mono ?_))
    rintro e w1 ⟨⟨v,rfl,ho⟩,hb1⟩;obtain⟨a,cap,rfl,_⟩:=zaI ho;have HO:=Hd ho;have HE1:=Hd (HE.out.below hb1);have HB1:=Hd hb1;clear ho hb1
    go_wp2_with (go_at_call 144;(with_reducible refine(HSc.out false _ HE1.out HScal.out).mono ?_))
    rintro e w2 ⟨rfl,hb2⟩;have HE2:=Hd (HE1.out.below hb2);have HB2:=Ht HB1 hb2;have HO2:=Hd (HO.out.belowed hb2);clear hb2
    go_wp2_with fail
    go_ret;exact⟨by rw[hfin.out];rfl,HB2.out⟩
   ·have HScal:=Hd h2
    rcases hsr:shapeT r with _|_
    ·have HSh:=Hd hsr
     have hfin:=Hd (show shapeT (.fn ps r)=false by rw[hsh,hsr];simp);clear hsh hsr hn h1 h2
     go_enter Tryz.func131,Tryz.ntmps131
     go_wp2_with (go_at_call 113;(with_reducible refine(HS.out _ HE.out.keys HE.out.lt).mono ?_))
     rintro e w1 ⟨⟨v,rfl,ho⟩,hb1⟩;obtain⟨a,cap,rfl,_⟩:=zaI ho;have HO:=Hd ho;have HE1:=Hd (HE.out.below hb1);have HB1:=Hd hb1;clear ho hb1
     go_wp2_with (go_at_call 144;(with_reducible refine(HSc.out true _ HE1.out HScal.out).mono ?_))
     rintro e w2 ⟨rfl,hb2⟩;have HE2:=Hd (HE1.out.below hb2);have HB2:=Ht HB1 hb2;have HO2:=Hd (HO.out.belowed hb2);clear hb2
     go_wp2_with (go_at_call 131;(with_reducible refine(HI.out _ HE2.out).mono ?_))
     rintro e w3 ⟨rfl,hb3⟩;rw[HSh.out];have HE3:=Hd (HE2.out.below hb3);have HB3:=Ht HB2 hb3;have HO3:=Hd (HO2.out.belowed hb3);clear hb3
     go_wp2_with fail
     go_ret;exact⟨by rw[hfin.out];rfl,HB3.out⟩
    ·have HSh:=Hd hsr
     have hfin:=Hd (show shapeT (.fn ps r)=zbL ps by rw[hsh,hsr,zcd,h1,h2];simp[hn]);clear hsh hsr hn h1 h2
     go_enter Tryz.func131,Tryz.ntmps131
     go_wp2_with (go_at_call 113;(with_reducible refine(HS.out _ HE.out.keys HE.out.lt).mono ?_))
     rintro e w1 ⟨⟨v,rfl,ho⟩,hb1⟩;obtain⟨a,cap,rfl,_⟩:=zaI ho;have HO:=Hd ho;have HE1:=Hd (HE.out.below hb1);have HB1:=Hd hb1;clear ho hb1
     go_wp2_with (go_at_call 144;(with_reducible refine(HSc.out true _ HE1.out HScal.out).mono ?_))
     rintro e w2 ⟨rfl,hb2⟩;have HE2:=Hd (HE1.out.below hb2);have HB2:=Ht HB1 hb2;have HO2:=Hd (HO.out.belowed hb2);clear hb2
     go_wp2_with (go_at_call 131;(with_reducible refine(HI.out _ HE2.out).mono ?_))
     rintro e w3 ⟨rfl,hb3⟩;rw[HSh.out];have HE3:=Hd (HE2.out.below hb3);have HB3:=Ht HB2 hb3;have HO3:=Hd (HO2.out.belowed hb3);clear hb3
     go_wp2_with (go_at_call 145;(with_reducible refine(HCF.out _ _ _ HE3.out HO3.out).mono ?_))
     rintro e w4 ⟨rfl,hb4⟩;have HB4:=Ht HB3 hb4;clear hb4
     go_wp2_with fail
     go_ret;exact⟨by rw[hfin.out];simp,HB4.out⟩
  ·rw[h1]at hv
   have hv':((tyB r).toList != [118])=false:=by rw[bne,hv];rfl
   rcases hsr:shapeT r with _|_
   ·have HSh:=Hd hsr
    have hfin:=Hd (show shapeT (.fn ps r)=false by rw[hsh,hsr];simp);clear hsh hsr hn h1
    go_enter Tryz.func131,Tryz.ntmps131
    go_wp2_with (go_at_call 113;(with_reducible refine(HS.out _ HE.out.keys HE.out.lt).mono ?_))
    rintro e w1 ⟨⟨v,rfl,ho⟩,hb1⟩;obtain⟨a,cap,rfl,_⟩:=zaI ho;have HO:=Hd ho;have HE1:=Hd (HE.out.below hb1);have HB1:=Hd hb1;clear ho hb1;have HE2:=Hd HE1.out;have HB2:=Hd HB1.out;have HO2:=Hd HO.out
    go_wp2_with (go_at_call 131;(with_reducible refine(HI.out _ HE2.out).mono ?_))
    rintro e w3 ⟨rfl,hb3⟩;rw[HSh.out];have HE3:=Hd (HE2.out.below hb3);have HB3:=Ht HB2 hb3;have HO3:=Hd (HO2.out.belowed hb3);clear hb3
    go_wp2_with fail
    go_ret;exact⟨by rw[hfin.out];rfl,HB3.out⟩
   ·have HSh:=Hd hsr
    have hfin:=Hd (show shapeT (.fn ps r)=zbL ps by rw[hsh,hsr,zcd,h1];simp[hn]);clear hsh hsr hn h1
    go_enter Tryz.func131,Tryz.ntmps131
    go_wp2_with (go_at_call 113;(with_reducible refine(HS.out _ HE.out.keys HE.out.lt).mono ?_))
    rintro e w1 ⟨⟨v,rfl,ho⟩,hb1⟩;obtain⟨a,cap,rfl,_⟩:=zaI ho;have HO:=Hd ho;have HE1:=Hd (HE.out.below hb1);have HB1:=Hd hb1;clear ho hb1;have HE2:=Hd HE1.out;have HB2:=Hd HB1.out;have HO2:=Hd HO.out
    go_wp2_with (go_at_call 131;(with_reducible refine(HI.out _ HE2.out).mono ?_))
    rintro e w3 ⟨rfl,hb3⟩;rw[HSh.out];have HE3:=Hd (HE2.out.below hb3);have HB3:=Ht HB2 hb3;have HO3:=Hd (HO2.out.belowed hb3);clear hb3
    go_wp2_with (go_at_call 145;(with_reducible refine(HCF.out _ _ _ HE3.out HO3.out).mono ?_))
    rintro e w4 ⟨rfl,hb4⟩;have HB4:=Ht HB3 hb4;clear hb4
    go_wp2_with fail
    go_ret;exact⟨by rw[hfin.out];simp,HB4.out⟩
 ·have hfin:=Hd (show shapeT (.fn ps r)=false by rw[hsh];simp[hn])
  have t4:(8:Int)<ps.length:=by omega
  clear hsh hn hv
  go_enter Tryz.func131,Tryz.ntmps131
  go_wp2_with (go_at_call 113;(with_reducible refine(HS.out _ HE.out.keys HE.out.lt).mono ?_))
  rintro e w1 ⟨⟨v,rfl,ho⟩,hb1⟩;obtain⟨a,cap,rfl,_⟩:=zaI ho;have HO:=Hd ho;have HE1:=Hd (HE.out.below hb1);have HB1:=Hd hb1;clear ho hb1
  go_wp2_with fail
  go_ret;exact⟨by rw[hfin.out];rfl,HB1.out⟩
theorem zdS:∀(n:Nat) (t:Ty),(code t).length≤n→zaD t→(code t).length≤65536→zch t
 | 0,t,hn,hr,_=>by have:=zb7 hr;omega
 | n+1,t,hn,hr,hl=>by
   cases t with
   | base c=>exact zhY _ (by rcases zaM hr with rfl|rfl|rfl|rfl|rfl|rfl<;>decide) (by rcases zaM hr with rfl|rfl|rfl|rfl|rfl|rfl<;>decide) (by rcases zaM hr with rfl|rfl|rfl|rfl|rfl|rfl<;>decide) (by rw[shapeT])
   | str s=>exact zhY _ (by simp[headT]) (by simp[headT]) (by simp[headT]) (by rw[shapeT])
   | ptr u=>exact zps u hr (zdS n u (by rw[code]at hn;simp at hn;omega) hr (by rw[code]at hl;simp at hl;omega))
   | arr m u=>exact zpw m u hr hl (zdS n u (by rw[code]at hn;simp at hn;omega) hr.2 (by rw[code]at hl;simp at hl;omega))
   | fn ps r=>
     refine zr9 ps r hr hl (fun p hp=>?_) (zdS n r (by rw[code]at hn;simp at hn;omega) hr.2 (by rw[code]at hl;simp at hl;omega));have h1:=zdj hp;have h2:zaD p:=by
      obtain⟨a,b,rfl⟩:=List.append_of_mem hp;exact zcC hr.1
     rw[code]at hn hl;simp at hn hl;exact zdS n p (by omega) h2 (by omega)
end Go.Proofs.YtbbaooeioogijaaGreatDoor
