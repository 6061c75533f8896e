/- Structs that are known, as they stand in the world; a struct -/
import Derived.Test.YtbbaooeioogijaaGreatDoorMg2
import Derived.Maps.OwnSet
import Derived.Maps.OwnOps
import Derived.Laws.AppendOwnNone
import Derived.Deep.AppendLies
import Derived.OrdersHeld
import Derived.StillTail
import Derived.Deep.RegionLaw
namespace Go.Proofs.YtbbaooeioogijaaGreatDoor
open Go.RowKit Go.Maps
set_option maxRecDepth 100000
set_option maxHeartbeats 1000000
theorem zqv:Keyed Tryz.prog 9:=string_keyed Tryz.underlying9
theorem zva (w:World):(zeroValue 3).run Tryz.prog w=.ok (.int .i64 0) w:=by kernel_rfl
def zcv (K:List Kn)(s:List UInt8):Int × Bool:=match za3 K s with
 | some i=>((i:Nat),true)
 | none=>(0,false)
def NamesAt (w:World)(b:Nat)(K:List Kn):Prop:=∃D:DataW Unit,w.ownsMap Tryz.prog 9 (plainElem Tryz.prog 3) b K.length D ∧
 ∀s:List UInt8,has D (.string s)=(zcv K s).2∧D.atKey (.string s) (.lit (.int .i64 0))=.lit (.int .i64 (zcv K s).1)
theorem NamesAt.look {w:World}{b:Nat}{K:List Kn}(h:NamesAt w b K){s:ByteArray}(hs:s.size≤maxLen) :
 (Instr.lookup 111 (.map (some b)) (.string s) true).run Tryz.prog w=.ok (.tuple #[.int .i64 (zcv K s.data.toList).1,.bool (zcv K s.data.toList).2]) w:=by
 obtain⟨D,hD,hv⟩:=h;have hkey:=Go.WideMaps.keyOf_string_mk (P:=Tryz.prog) Tryz.underlying9 hs;obtain⟨v,ps,hrun,hR⟩:=hD.look_ok zqv Tryz.underlying111 (zva w) (plainElem_int (H:=Unit) Tryz.underlying3 (by decide)) hkey;obtain⟨h1,h2⟩:=hv s.data.toList;rw[h1]at hrun;rw[h2]at hR;obtain⟨c,rfl,hc,_⟩:=plainElem_int_inv Tryz.underlying3 hR;have:=congrArg Prod.fst hc;simp only[DataW.lit.injEq,Lit.int.injEq,true_and]at this;rw[this];exact hrun
theorem NamesAt.drewN {w:World}{b:Nat}{K:List Kn}(h:NamesAt w b K)(n:Nat):NamesAt (w.drewN n) b K:=h
theorem NamesAt.below {w w':World}{b:Nat}{K:List Kn}(h:NamesAt w b K)(hb:Below w.heap.size w w'):NamesAt w' b K:=by
 obtain⟨D,hD,hv⟩:=h;exact⟨D,hD.kept (row:=none) ⟨hb.os,hb.tape,hb.output,hb.size,fun k hk _=>hb.block k hk⟩ (by simp),hv⟩
structure KnAt (B:Nat)(w:World)(b mb:Nat)(lv sv av:Value)(mv:List Value)(K:List Kn):Prop where
 blk:w.heap[b]?=some (.cells #[lv,.map (some mb),sv,av] 168 (0,0))
 base:B≤b∧B≤mb∧b≠mb
 names:NamesAt w mb K
 sizes:w.ownsRow B 3 1 sv K.length (K.map fun k=>.int .i64 (k.size:Int))
 aligns:w.ownsRow B 3 1 av K.length (K.map fun k=>.int .i64 (k.align:Int))
 list:w.ownsRow B 61 2 lv K.length ((K.zip mv).flatMap fun q=>[.string q.1.name,q.2])
 mems:mv.length=K.length
 apart:∀k,(sv.ownBlock=some k→k≠b∧k≠mb∧av.ownBlock≠some k∧lv.ownBlock≠some k)∧(av.ownBlock=some k→k≠b∧k≠mb∧lv.ownBlock≠some k)∧(lv.ownBlock=some k→k≠b∧k≠mb)
theorem KnAt.below {B b mb:Nat}{w w':World}{lv sv av:Value}{mv:List Value}{K:List Kn}(h:KnAt B w b mb lv sv av mv K)(hb:Below w.heap.size w w'):KnAt B w' b mb lv sv av mv K:=
 ⟨by rw[hb.block b (zaa h.blk)];exact h.blk,h.base,h.names.below hb,h.sizes.belowed hb,h.aligns.belowed hb,h.list.belowed hb,h.mems,h.apart⟩
theorem KnAt.drewN {B b mb:Nat}{w:World}{lv sv av:Value}{mv:List Value}{K:List Kn}(h:KnAt B w b mb lv sv av mv K)(n:Nat):KnAt B (w.drewN n) b mb lv sv av mv K:=h.below (Below.drewN' w n)
theorem KnAt.cells {B b mb:Nat}{w:World}{lv sv av:Value}{mv:List Value}{K:List Kn}(h:KnAt B w b mb lv sv av mv K):w.cell? ⟨b,0,none⟩=some lv∧w.cell? ⟨b,1,none⟩=some (.map (some mb))∧w.cell? ⟨b,2,none⟩=some sv∧w.cell? ⟨b,3,none⟩=some av:=by
 refine⟨?_,?_,?_,?_⟩<;>simp[World.cell?,h.blk]
def placeK (K:List Kn)(s:List UInt8):Int:=match za3 K s with
 | some i=>(i:Nat)
 | none=>-1
theorem zor (K:List Kn)(s:List UInt8):(zcv K s).2=(za3 K s).isSome∧placeK K s=if (zcv K s).2=true then (zcv K s).1 else -1:=by
 unfold zcv placeK;cases za3 K s<;>simp
theorem zgH (n:List UInt8){B b mb:Nat}{w:World}{lv sv av:Value}{mv:List Value}{K:List Kn}(h:KnAt B w b mb lv sv av mv K)(hl:(code (.str n)).length≤65536) :
 Calls Tryz.prog 143 #[.pointer (some ⟨b,0,none⟩),.string (tyB (.str n))] w fun e w'=>e=.returned (.int .i64 (placeK K n))∧∃n,w'=w.drewN n:=by
 obtain⟨_,c1,_,_⟩:=h.cells
 have hx:(tyB (.str n)).extract 1 ((tyB (.str n)).size-1)=strB n:=zlj (by
  have:(tyB (.str n)).size-1=1+n.length:=by rw[zba,code];simp;omega
  rw[this,za8,zeC,code]
  simp)
 have hlk:∀m,(Instr.lookup 111 (.map (some mb)) (.string (strB n)) true).run Tryz.prog (w.drewN m)=.ok (.tuple #[.int .i64 (zcv K n).1,.bool (zcv K n).2]) (w.drewN m):=fun m=>by
  have:=(h.names.drewN m).look (s:=strB n) (by rw[zpe,code]at *;simp at hl;unfold maxLen;omega);rw[zgI]at this;exact this
 rw[← hx]at hlk;have hs2:2≤(tyB (.str n)).size:=by rw[zba,code];simp
 have hs3:(tyB (.str n)).size≤65536:=by rw[zba];exact hl
 have HP:=Hd (zor K n).2;generalize tyB (.str n)=s at *;have e1:IntKind.i64.wrap ((s.size:Int)-1)=(s.size:Int)-1:=IntWalk.i64_in _ (by omega);have e2:((s.size:Int)-1).toNat=s.size-1:=by omega
 have e3:(1:Int)≤(s.size:Int)-1:=by omega
 have e4:(s.size:Int)-1≤s.size:=by omega
 clear h hx hl hs3;rcases hv:zcv K n with ⟨i,f⟩;rw[hv]at hlk HP;cases f with
 | false=>
   have hfin:=Hd (HP.out.trans (if_neg (by simp)));clear hv
   go_enter Tryz.func143,Tryz.ntmps143
   go_wp2_with fail
   go_quiet (fail)
   go_wp2
   go_ret;exact⟨by rw[hfin.out];rfl,_,rfl⟩
 | true=>
   have hfin:=Hd (HP.out.trans (if_pos rfl));clear hv
   go_enter Tryz.func143,Tryz.ntmps143
   go_wp2_with fail
   go_quiet (fail)
   go_wp2
   go_ret;exact⟨by rw[hfin.out];rfl,_,rfl⟩
end Go.Proofs.YtbbaooeioogijaaGreatDoor
namespace Go.Proofs.YtbbaooeioogijaaGreatDoor
open Go.RowKit
set_option maxRecDepth 100000
set_option maxHeartbeats 1000000
theorem zoe {K:List Kn}{n:List UInt8}:decide (0≤placeK K n)=(za3 K n).isSome:=by
 unfold placeK;cases za3 K n<;>simp
theorem ziN {B b mb:Nat}{lv sv av:Value}{mv:List Value}{K:List Kn}:∀(t:Ty) (w:World),zaD t→(code t).length≤65536→TE w→KnAt B w b mb lv sv av mv K →
 Calls Tryz.prog 132 #[.pointer (some ⟨b,0,none⟩),.string (tyB t)] w fun e w'=>e=.returned (.bool (thereT K t))∧Below w.heap.size w w'
 | .arr n u,w,hr,hl,hE,hK=>by
   have ih:=ziN (B:=B) (b:=b) (mb:=mb) (lv:=lv) (sv:=sv) (av:=av) (mv:=mv) (K:=K) u;have HE:=Hd hE;have HK:=Hd hK;have HS:=Hd (fun w hM=>ze2 n u w hr hM hl);have HI:=Hd (fun w hE hK=>ih w hr.2 (by rw[code]at hl;simp at hl;omega) hE hK);obtain⟨h0,hc⟩:=zau (.arr n u);have t1:(((tyB (.arr n u))[0].toNat:Int) == 97)=true:=zcY hc;rw[show thereT K (.arr n u)=thereT K u by rw[thereT]];generalize tyB (.arr n u)=s at *;generalize thereT K u=r at *;clear hc hE hK ih hr hl
   go_enter Tryz.func132,Tryz.ntmps132
   go_wp2_with (go_at_call 113;(with_reducible refine(HS.out _ HE.out.maxl).mono ?_))
   rintro e w1 ⟨rfl,hb1⟩;have HI1:=Hd (HI.out _ (HE.out.below hb1) (HK.out.below hb1))
   go_wp2_with (go_at_call 132;(with_reducible refine HI1.out.mono ?_))
   rintro e w2 ⟨rfl,hb2⟩
   go_wp2_with fail
   go_ret;exact⟨rfl,hb1.trans (hb2.mono hb1.size)⟩
 | .str n,w,hr,hl,hE,hK=>by
   have HS:=Hd (zgH n hK hl);obtain⟨h0,hc⟩:=zau (.str n);have t1:(((tyB (.str n))[0].toNat:Int) == 97)=false:=zaj (d:=97) hc (by simp[headT]);have t2:(((tyB (.str n))[0].toNat:Int) == 83)=true:=zcY hc;rw[show thereT K (.str n)=decide (0≤placeK K n) by rw[thereT,zoe]];generalize tyB (.str n)=s at *;generalize placeK K n=i at *;clear hc hE hK hr hl
   go_enter Tryz.func132,Tryz.ntmps132
   go_wp2_with (go_at_call 143;(with_reducible refine HS.out.mono ?_);rintro e w1 ⟨rfl,nq,rfl⟩)
   go_ret;exact⟨rfl,Below.drewN' w nq⟩
 | .base c,w,hr,_,_,_=>by
   obtain⟨h0,hc⟩:=zau (.base c);have t1:(((tyB (.base c))[0].toNat:Int) == 97)=false:=zaj (d:=97) hc (by rcases zaM hr with rfl|rfl|rfl|rfl|rfl|rfl<;>decide);have t2:(((tyB (.base c))[0].toNat:Int) == 83)=false:=zaj (d:=83) hc (by rcases zaM hr with rfl|rfl|rfl|rfl|rfl|rfl<;>decide);rw[show thereT K (.base c)=true by simp[thereT]];generalize tyB (.base c)=s at *;clear hc hr
   go_enter Tryz.func132,Tryz.ntmps132
   go_wp2_with fail
   go_ret;exact⟨rfl,zv3 _ _⟩
 | .ptr u,w,_,_,_,_=>by
   obtain⟨h0,hc⟩:=zau (.ptr u);have t1:(((tyB (.ptr u))[0].toNat:Int) == 97)=false:=zaj (d:=97) hc (by simp[headT]);have t2:(((tyB (.ptr u))[0].toNat:Int) == 83)=false:=zaj (d:=83) hc (by simp[headT]);rw[show thereT K (.ptr u)=true by simp[thereT]];generalize tyB (.ptr u)=s at *;clear hc
   go_enter Tryz.func132,Tryz.ntmps132
   go_wp2_with fail
   go_ret;exact⟨rfl,zv3 _ _⟩
 | .fn ps r,w,_,_,_,_=>by
   obtain⟨h0,hc⟩:=zau (.fn ps r);have t1:(((tyB (.fn ps r))[0].toNat:Int) == 97)=false:=zaj (d:=97) hc (by simp[headT]);have t2:(((tyB (.fn ps r))[0].toNat:Int) == 83)=false:=zaj (d:=83) hc (by simp[headT]);rw[show thereT K (.fn ps r)=true by simp[thereT]];generalize tyB (.fn ps r)=s at *;clear hc
   go_enter Tryz.func132,Tryz.ntmps132
   go_wp2_with fail
   go_ret;exact⟨rfl,zv3 _ _⟩
def FitK (K:List Kn):Prop:=K.length≤64∧∀k ∈ K,k.size≤65536∧1≤k.align∧k.align≤4
def capM (p:Nat × Nat):Nat × Nat:=(min p.1 1099511627776,p.2)
def zkn (p:Nat × Nat):Value:=.tuple #[.int .i64 (p.1:Int),.int .i64 (p.2:Int)]
theorem zd8 {K:List Kn}{s:List UInt8}{i:Nat}(h:za3 K s=some i):i<K.length:=by
 unfold za3 at h;exact(List.findIdx?_eq_some_iff_getElem.1 h).1
theorem zi2 {K:List Kn}{s:List UInt8}{i:Nat}(h:za3 K s=some i):measT K (.str s)=((K[i]'(zd8 h)).size,(K[i]'(zd8 h)).align):=by
 rw[measT,h];simp[List.getElem?_eq_getElem (zd8 h)]
theorem zuV (n:Nat)(p:Nat × Nat)(h:n≤65536):capM (n*p.1,p.2)=(min (n*(capM p).1) 1099511627776,(capM p).2):=by
 unfold capM;simp only[Prod.mk.injEq,and_true];rcases Nat.le_total p.1 1099511627776 with h1|h1
 ·rw[Nat.min_eq_left h1]
 ·rw[Nat.min_eq_right h1]
  rcases Nat.eq_zero_or_pos n with rfl|hn
  ·simp
  ·have h2:1099511627776≤n*1099511627776:=Nat.le_mul_of_pos_left _ hn
   have h3:n*1099511627776≤n*p.1:=Nat.mul_le_mul_left n h1;omega
theorem zd0 (t:Ty)(b:Nat)(w:World)(h1:headT t≠99)(h2:headT t≠115)(h3:headT t≠106)(h4:headT t≠97)(h5:headT t≠83) :
 Calls Tryz.prog 126 #[.pointer (some ⟨b,0,none⟩),.string (tyB t)] w fun e w'=>e=.returned (.tuple #[.int .i64 4,.int .i64 4])∧Below w.heap.size w w':=by
 obtain⟨h0,hc⟩:=zau t;have t1:(((tyB t)[0].toNat:Int) == 99)=false:=zaj (d:=99) hc (h1);have t2:(((tyB t)[0].toNat:Int) == 115)=false:=zaj (d:=115) hc (h2);have t3:(((tyB t)[0].toNat:Int) == 106)=false:=zaj (d:=106) hc (h3);have t4:(((tyB t)[0].toNat:Int) == 97)=false:=zaj (d:=97) hc (h4);have t5:(((tyB t)[0].toNat:Int) == 83)=false:=zaj (d:=83) hc (h5);generalize tyB t=s at *;clear hc h1 h2 h3 h4 h5
 go_enter Tryz.func126,Tryz.ntmps126
 go_wp2_with fail
 go_ret2
 exact⟨rfl,zv3 _ _⟩
theorem zvs (t:Ty)(b:Nat)(w:World)(h:headT t=99) :
 Calls Tryz.prog 126 #[.pointer (some ⟨b,0,none⟩),.string (tyB t)] w fun e w'=>e=.returned (.tuple #[.int .i64 1,.int .i64 1])∧Below w.heap.size w w':=by
 obtain⟨h0,hc⟩:=zau t;have t1:(((tyB t)[0].toNat:Int) == 99)=true:=by rw[hc,h];rfl
 generalize tyB t=s at *;clear hc h
 go_enter Tryz.func126,Tryz.ntmps126
 go_wp2_with fail
 go_ret2
 exact⟨rfl,zv3 _ _⟩
theorem zvq (t:Ty)(b:Nat)(w:World)(h:headT t=115) :
 Calls Tryz.prog 126 #[.pointer (some ⟨b,0,none⟩),.string (tyB t)] w fun e w'=>e=.returned (.tuple #[.int .i64 2,.int .i64 2])∧Below w.heap.size w w':=by
 obtain⟨h0,hc⟩:=zau t;have t1:(((tyB t)[0].toNat:Int) == 99)=false:=zaj (d:=99) hc (by rw[h];decide);have t2:(((tyB t)[0].toNat:Int) == 115)=true:=by rw[hc,h];rfl
 generalize tyB t=s at *;clear hc h
 go_enter Tryz.func126,Tryz.ntmps126
 go_wp2_with fail
 go_ret2
 exact⟨rfl,zv3 _ _⟩
theorem zvr (t:Ty)(b:Nat)(w:World)(h:headT t=106) :
 Calls Tryz.prog 126 #[.pointer (some ⟨b,0,none⟩),.string (tyB t)] w fun e w'=>e=.returned (.tuple #[.int .i64 64,.int .i64 4])∧Below w.heap.size w w':=by
 obtain⟨h0,hc⟩:=zau t;have t1:(((tyB t)[0].toNat:Int) == 99)=false:=zaj (d:=99) hc (by rw[h];decide);have t2:(((tyB t)[0].toNat:Int) == 115)=false:=zaj (d:=115) hc (by rw[h];decide);have t3:(((tyB t)[0].toNat:Int) == 106)=true:=by rw[hc,h];rfl
 generalize tyB t=s at *;clear hc h
 go_enter Tryz.func126,Tryz.ntmps126
 go_wp2_with fail
 go_ret2
 exact⟨rfl,zv3 _ _⟩
theorem zvt (n:List UInt8){B b mb:Nat}{w:World}{lv sv av:Value}{mv:List Value}{K:List Kn}(hl:(code (.str n)).length≤65536)(hK:KnAt B w b mb lv sv av mv K)(hF:FitK K){i:Nat}(hlt:i<K.length)(hi:za3 K n=some i) :
 Calls Tryz.prog 126 #[.pointer (some ⟨b,0,none⟩),.string (tyB (.str n))] w fun e w'=>e=.returned (.tuple #[.int .i64 ((K[i]'hlt).size:Int),.int .i64 ((K[i]'hlt).align:Int)])∧Below w.heap.size w w':=by
 have HS:=Hd (show Calls Tryz.prog 143 #[.pointer (some ⟨b,0,none⟩),.string (tyB (.str n))] w fun e w'=>e=.returned (.int .i64 (i:Int))∧∃n,w'=w.drewN n by
  have:=zgH n hK hl;rw[show placeK K n=(i:Int) by unfold placeK;rw[hi]]at this
  exact this)
 obtain⟨h0,hc⟩:=zau (.str n);have t1:(((tyB (.str n))[0].toNat:Int) == 99)=false:=zaj (d:=99) hc (by simp[headT]);have t2:(((tyB (.str n))[0].toNat:Int) == 115)=false:=zaj (d:=115) hc (by simp[headT]);have t3:(((tyB (.str n))[0].toNat:Int) == 106)=false:=zaj (d:=106) hc (by simp[headT]);have t4:(((tyB (.str n))[0].toNat:Int) == 97)=false:=zaj (d:=97) hc (by simp[headT]);have t5:(((tyB (.str n))[0].toNat:Int) == 83)=true:=by rw[hc];rfl
 obtain⟨_,_,c2,c3⟩:=hK.cells;obtain⟨a1,cap1,rfl,hr1⟩:=zaI hK.sizes;obtain⟨a2,cap2,rfl,hr2⟩:=zaI hK.aligns;obtain⟨g1,rfl,_,_,hc1⟩:=hr1 (by omega);obtain⟨g2,rfl,_,_,hc2⟩:=hr2 (by omega);have d1:=hc1 i _ (by rw[List.getElem?_map,zv1 hlt];rfl);have d2:=hc2 i _ (by rw[List.getElem?_map,zv1 hlt];rfl);have hk64:=hF.1;generalize tyB (.str n)=s at *;have hi1:(i:Int)<K.length:=by omega
 have hi2:(K.length:Int)≤64:=by omega
 clear hc hl hK hF hi hr1 hr2 hc1 hc2
 go_enter Tryz.func126,Tryz.ntmps126
 go_wp2_with (go_at_call 143;(with_reducible refine HS.out.mono ?_);rintro e w1 ⟨rfl,nq,rfl⟩)
 go_quiet (fail)
 go_wp2
 go_ret2
 exact⟨rfl,zaf (Below.drewN' w _) _⟩
theorem zfH {B b mb:Nat}{lv sv av:Value}{mv:List Value}{K:List Kn}:∀(t:Ty) (w:World),zaD t→(code t).length≤65536→shapeT t=true→thereT K t=true→TE w→KnAt B w b mb lv sv av mv K→FitK K →
 Calls Tryz.prog 126 #[.pointer (some ⟨b,0,none⟩),.string (tyB t)] w fun e w'=>e=.returned (zkn (capM (measT K t)))∧Below w.heap.size w w'
 | .base c,w,hr,_,_,_,_,_,_=>by
   rcases zaM hr with rfl|rfl|rfl|rfl|rfl|rfl
   ·exact zd0 _ b w (by decide) (by decide) (by decide) (by decide) (by decide)
   ·exact zvs _ b w rfl
   ·exact zvq _ b w rfl
   ·exact zd0 _ b w (by decide) (by decide) (by decide) (by decide) (by decide)
   ·exact zd0 _ b w (by decide) (by decide) (by decide) (by decide) (by decide)
   ·exact zvr _ b w rfl
 | .ptr u,w,_,_,_,_,_,_,_=>zd0 _ b w (by simp[headT]) (by simp[headT]) (by simp[headT]) (by simp[headT]) (by simp[headT])
 | .fn ps r,w,_,_,_,_,_,_,_=>zd0 _ b w (by simp[headT]) (by simp[headT]) (by simp[headT]) (by simp[headT]) (by simp[headT])
 | .str n,w,hr,hl,_,ht,_,hK,hF=>by
   rw[thereT]at ht;obtain⟨i,hi⟩:=Option.isSome_iff_exists.1 ht;have:=zvt n hl hK hF (zd8 hi) hi;have hm:=zi2 hi;have hs:=(hF.2 (K[i]'(zd8 hi)) (zwb _)).1
   rw[show zkn (capM (measT K (.str n)))=.tuple #[.int .i64 ((K[i]'(zd8 hi)).size:Int),.int .i64 ((K[i]'(zd8 hi)).align:Int)] by
    rw[hm,capM,zkn];simp only
    rw[Nat.min_eq_left (by omega)]]
   exact this
 | .arr n u,w,hr,hl,hsh,ht,hE,hK,hF=>by
   have ih:=zfH (B:=B) (b:=b) (mb:=mb) (lv:=lv) (sv:=sv) (av:=av) (mv:=mv) (K:=K) u;have HE:=Hd hE;have HK:=Hd hK;rw[shapeT,Bool.and_eq_true,Bool.and_eq_true,decide_eq_true_iff]at hsh;rw[thereT]at ht;have HS:=Hd (fun w hM=>ze2 n u w hr hM hl);have HI:=Hd (fun w hE hK=>ih w hr.2 (by rw[code]at hl;simp at hl;omega) hsh.2.2 ht hE hK hF);obtain⟨h0,hc⟩:=zau (.arr n u);have t1:(((tyB (.arr n u))[0].toNat:Int) == 99)=false:=zaj (d:=99) hc (by simp[headT]);have t2:(((tyB (.arr n u))[0].toNat:Int) == 115)=false:=zaj (d:=115) hc (by simp[headT]);have t3:(((tyB (.arr n u))[0].toNat:Int) == 106)=false:=zaj (d:=106) hc (by simp[headT]);have t4:(((tyB (.arr n u))[0].toNat:Int) == 97)=true:=by rw[hc];rfl
   have hv:measT K (.arr n u)=(n*(measT K u).1,(measT K u).2):=by rw[measT]
   have HV:=Hd (show zkn (capM (measT K (.arr n u)))=.tuple #[.int .i64 (min ((n:Int)*((capM (measT K u)).1:Int)) 1099511627776),.int .i64 ((capM (measT K u)).2:Int)] by
    rw[hv,zuV n (measT K u) hsh.1.2,zkn];have e:((min (n*(capM (measT K u)).1) 1099511627776:Nat):Int)=min ((n:Int)*((capM (measT K u)).1:Int)) 1099511627776:=by
     rw[← Int.natCast_mul];omega
    simp only[e])
   have hb1:((capM (measT K u)).1:Int)≤1099511627776:=by unfold capM;simp only;omega
   have hn1:(n:Int)≤65536:=by omega
   unfold zkn at HI;generalize capM (measT K u)=p at *;obtain⟨p1,p2⟩:=p;simp only at HV hb1 HI;have hm0:(0:Int)≤(n:Int)*(p1:Int):=by exact_mod_cast Nat.zero_le _
   have hm1:(n:Int)*(p1:Int)≤72057594037927936:=by
    have h1:n*p1≤65536*1099511627776:=Nat.mul_le_mul (by omega) (by omega);have:((n*p1:Nat):Int)≤((65536*1099511627776:Nat):Int):=by exact_mod_cast h1
    rw[Int.natCast_mul]at this;omega
   generalize tyB (.arr n u)=s at *;clear hc hE hK ih hr hl hsh ht hF hv
   go_enter Tryz.func126,Tryz.ntmps126
   go_wp2_with (go_at_call 113;(with_reducible refine(HS.out _ HE.out.maxl).mono ?_))
   rintro e w1 ⟨rfl,hb1⟩;have HI1:=Hd (HI.out _ (HE.out.below hb1) (HK.out.below hb1))
   go_wp2_with (go_at_call 126;(with_reducible refine HI1.out.mono ?_))
   rintro e w2 ⟨rfl,hb2⟩
   go_wp2_with fail
   go_ret2
   exact⟨by rw[HV.out];rfl,hb1.trans (hb2.mono hb1.size)⟩
set_option maxHeartbeats 1000000
def zdI (B b mb:Nat)(lv sv av:Value)(mv:List Value)(K:List Kn)(t:Ty):Prop:=∀w,TE w→KnAt B w b mb lv sv av mv K →
 Calls Tryz.prog 133 #[.pointer (some ⟨b,0,none⟩),.string (tyB t)] w fun e w'=>e=.returned (.bool (sizedT K t))∧Below w.heap.size w w'
section
variable {B b mb:Nat} {lv sv av:Value} {mv:List Value} {K:List Kn}
theorem zhX (t:Ty)(h1:headT t≠112)(h2:headT t≠97)(h3:headT t≠102)(hs:sizedT K t=true):zdI B b mb lv sv av mv K t:=by
 intro w hE hK;rw[hs];obtain⟨h0,hc⟩:=zau t;have t1:(((tyB t)[0].toNat:Int) == 112)=false:=zaj (d:=112) hc h1;have t2:(((tyB t)[0].toNat:Int) == 97)=false:=zaj (d:=97) hc h2;have t3:(((tyB t)[0].toNat:Int) == 102)=false:=zaj (d:=102) hc h3;generalize tyB t=s at *;clear hc hE h1 h2 h3 hs hK
 go_enter Tryz.func133,Tryz.ntmps133
 go_wp2_with fail
 go_ret;exact⟨rfl,zv3 _ _⟩
theorem zpn (u:Ty)(ih:zdI B b mb lv sv av mv K u):zdI B b mb lv sv av mv K (.ptr u):=by
 intro w hE hK;unfold zdI at ih;have HI:=Hd (ih w hE hK);rw[show sizedT K (.ptr u)=sizedT K u by rw[sizedT]];obtain⟨h0,hc⟩:=zau (.ptr u);have HX:=Hd (ziL (t:=.ptr u) (u:=u) (k:=1) rfl);have t1:(((tyB (.ptr u))[0].toNat:Int) == 112)=true:=zcY hc;generalize tyB (.ptr u)=s at *;have h1:(1:Int)≤s.size:=by omega
 generalize sizedT K u=r at *;clear hc hE ih hK
 go_enter Tryz.func133,Tryz.ntmps133
 go_wp2_with fail
 rw[HX.out];refine HI.out.mono ?_;rintro e w1 ⟨rfl,hb1⟩
 go_wp2_with fail
 go_ret;exact⟨rfl,hb1⟩
theorem zvN (p:Nat × Nat):decide (((capM p).1:Int)≤65536)=decide (p.1≤65536):=by
 rw[Bool.eq_iff_iff,decide_eq_true_iff,decide_eq_true_iff];unfold capM;simp only;omega
theorem zpo (n:Nat)(u:Ty)(hr:zaD (.arr n u))(hl:(code (.arr n u)).length≤65536)(hsh:shapeT (.arr n u)=true)(hF:FitK K)(ih:zdI B b mb lv sv av mv K u):zdI B b mb lv sv av mv K (.arr n u):=by
 intro w hE hK;unfold zdI at ih;have HE:=Hd hE;have HK:=Hd hK;have HI:=Hd ih;have HS:=Hd (fun w hM=>ze2 n u w hr hM hl);have HT:=Hd (fun w hE hK=>ziN (B:=B) (b:=b) (mb:=mb) (lv:=lv) (sv:=sv) (av:=av) (mv:=mv) (K:=K) (.arr n u) w hr hl hE hK);have HM:=Hd (fun w hE hK ht=>zfH (B:=B) (b:=b) (mb:=mb) (lv:=lv) (sv:=sv) (av:=av) (mv:=mv) (K:=K) (.arr n u) w hr hl hsh ht hE hK hF);obtain⟨h0,hc⟩:=zau (.arr n u);have t1:(((tyB (.arr n u))[0].toNat:Int) == 112)=false:=zaj (d:=112) hc (by simp[headT]);have t2:(((tyB (.arr n u))[0].toNat:Int) == 97)=true:=zcY hc;have hd:sizedT K (.arr n u)=(sizedT K u && (!thereT K (.arr n u) || decide ((measT K (.arr n u)).1≤65536))):=by
  rw[sizedT,show thereT K (.arr n u)=thereT K u by rw[thereT],show (measT K (.arr n u)).1=n*(measT K u).1 by rw[measT]]
 have hcl:=zvN (measT K (.arr n u));generalize tyB (.arr n u)=s at *;clear hc hE ih hr hl hsh hF hK;rcases h1:sizedT K u with _|_
 ·have H1:=Hd h1
  have hfin:=Hd (show sizedT K (.arr n u)=false by rw[hd,h1];rfl);clear hd h1 hcl
  go_enter Tryz.func133,Tryz.ntmps133
  go_wp2_with (go_at_call 113;(with_reducible refine(HS.out _ HE.out.maxl).mono ?_))
  rintro e w1 ⟨rfl,hb1⟩;have HI1:=Hd (HI.out _ (HE.out.below hb1) (HK.out.below hb1));rw[H1.out]at HI1
  go_wp2_with (go_at_call 133;(with_reducible refine HI1.out.mono ?_))
  rintro e w2 ⟨rfl,hb2⟩
  go_wp2_with fail
  go_ret;exact⟨by rw[hfin.out];rfl,hb1.trans (hb2.mono hb1.size)⟩
 ·have H1:=Hd h1
  rcases h2:thereT K (.arr n u) with _|_
  ·have H2:=Hd h2
   have hfin:=Hd (show sizedT K (.arr n u)=true by rw[hd,h1,h2];rfl);clear hd h1 h2 hcl
   go_enter Tryz.func133,Tryz.ntmps133
   go_wp2_with (go_at_call 113;(with_reducible refine(HS.out _ HE.out.maxl).mono ?_))
   rintro e w1 ⟨rfl,hb1⟩;have HI1:=Hd (HI.out _ (HE.out.below hb1) (HK.out.below hb1));rw[H1.out]at HI1
   go_wp2_with (go_at_call 133;(with_reducible refine HI1.out.mono ?_))
   rintro e w2 ⟨rfl,hb2⟩;have HB2:=Hd (hb1.trans (hb2.mono hb1.size));have HT2:=Hd (HT.out _ (HE.out.below HB2.out) (HK.out.below HB2.out));rw[H2.out]at HT2
   go_wp2_with (go_at_call 132;(with_reducible refine HT2.out.mono ?_))
   rintro e w3 ⟨rfl,hb3⟩
   go_wp2_with fail
   go_ret;exact⟨by rw[hfin.out];rfl,HB2.out.trans (hb3.mono HB2.out.size)⟩
  ·have H2:=Hd h2
   have hfin:=Hd (show sizedT K (.arr n u)=decide (((capM (measT K (.arr n u))).1:Int)≤65536) by rw[hd,h1,h2,hcl];simp);unfold zkn at HM;generalize capM (measT K (.arr n u))=p at *;clear hd h1 h2 hcl
   go_enter Tryz.func133,Tryz.ntmps133
   go_wp2_with (go_at_call 113;(with_reducible refine(HS.out _ HE.out.maxl).mono ?_))
   rintro e w1 ⟨rfl,hb1⟩;have HI1:=Hd (HI.out _ (HE.out.below hb1) (HK.out.below hb1));rw[H1.out]at HI1
   go_wp2_with (go_at_call 133;(with_reducible refine HI1.out.mono ?_))
   rintro e w2 ⟨rfl,hb2⟩;have HB2:=Hd (hb1.trans (hb2.mono hb1.size));have HT2:=Hd (HT.out _ (HE.out.below HB2.out) (HK.out.below HB2.out));rw[H2.out]at HT2
   go_wp2_with (go_at_call 132;(with_reducible refine HT2.out.mono ?_))
   rintro e w3 ⟨rfl,hb3⟩;have HB3:=Ht HB2 hb3;have HM3:=Hd (HM.out _ (HE.out.below HB3.out) (HK.out.below HB3.out) H2.out)
   go_wp2_with (go_at_call 126;(with_reducible refine HM3.out.mono ?_))
   rintro e w4 ⟨rfl,hb4⟩
   go_wp2_with fail
   go_ret;exact⟨by rw[hfin.out];rfl,HB3.out.trans (hb4.mono HB3.out.size)⟩
end
set_option maxHeartbeats 4000000
theorem zpL {w:World}{base:Nat}{e:TypeId}{size:Nat}{v:Value}{n:Nat}{xs:List Value}(h:w.ownsRow base e size v n xs):(v=.slice none 0 0∧n=0)∨∃g cap,v=.slice (some ⟨g,0,none⟩) n cap∧base≤g∧g<w.heap.size∧∀j u,xs[j]?=some u→w.cell? ⟨g,j,none⟩=some u:=by
 rcases h.2 with ⟨rfl,rfl⟩|⟨g,cap,cur,rfl,hb,hg,_⟩
 ·exact .inl ⟨rfl,rfl⟩
 ·refine .inr ⟨g,cap,rfl,hb,zaa hg,fun j u hj=>?_⟩
  have:=h.cells (g:=g) rfl j u hj
  rwa [zjt]at this
theorem zhW (K:List Kn)(l:List Ty):zeG K l=l.all (sizedT K):=by
 induction l with
 | nil=>rfl
 | cons t l ih=>rw[zeG,ih];rfl
theorem zvO (l:List Ty):∀u ∈ l.map (fun p=>Value.string (tyB p)),u.oneCell'=true:=by
 intro u hu;obtain⟨p,_,rfl⟩:=List.mem_map.1 hu
 rfl
section
variable {B b mb:Nat} {lv sv av:Value} {mv:List Value} {K:List Kn}
theorem zr1 (ps:List Ty)(r:Ty)(hr:zaD (.fn ps r))(hl:(code (.fn ps r)).length≤65536)(ih:∀p ∈ r :: ps,zdI B b mb lv sv av mv K p):zdI B b mb lv sv av mv K (.fn ps r):=by
 intro w hE hK;have HE:=Hd hE;have HK:=Hd hK;have HI:=Hd ih;have HS:=Hd (fun w hK hb=>ziQ ps r w hr hl hK hb);have hps:ps.length≤65536:=by
  have:=zcy hr.1;rw[code]at hl;simp at hl;omega
 obtain⟨h0,hc⟩:=zau (.fn ps r);have t1:(((tyB (.fn ps r))[0].toNat:Int) == 112)=false:=zaj (d:=112) hc (by simp[headT]);have t2:(((tyB (.fn ps r))[0].toNat:Int) == 97)=false:=zaj (d:=97) hc (by simp[headT]);have t3:(((tyB (.fn ps r))[0].toNat:Int) == 102)=true:=zcY hc;have hd:sizedT K (.fn ps r)=(r :: ps).all (sizedT K):=by rw[sizedT,zhW];rfl
 rw[hd];generalize tyB (.fn ps r)=s at *;obtain⟨i0,hi,hz0,hz1,hz2⟩:=info_parts zs6;have HIn:=Hd (And.intro hi (And.intro hz0 (And.intro hz1 hz2)));clear hc hE ih hr hl hK hd hi hz0 hz1 hz2
 go_enter Tryz.func133,Tryz.ntmps133
 go_wp2_with (go_at_call 113;(with_reducible refine(HS.out _ HE.out.keys HE.out.lt).mono ?_))
 rintro e w1 ⟨⟨v,rfl,ho⟩,hb1⟩;have HB1:=Hd hb1;have HO:=Hd ho;have hn1:=zst w1 40 (.string (tyB r));have HN:=Hd hn1;clear hb1 ho hn1
 go_upto_region 14 with fail
 go_cut [58,59,60] (fun v6 l6 z6 w6=>l6=.int .i64 ((r :: ps).length:Nat)∧z6=.int .i64 0∧(∃g cap,v6=.slice (some ⟨g,0,none⟩) (r :: ps).length cap∧g<w6.heap.size∧∀j (hj:j<(r :: ps).length),w6.cell? ⟨g,j,none⟩=some (.string (tyB (r :: ps)[j])))∧Below w.heap.size w w6)
 case first=>
  rcases zpL HO.out with ⟨rfl,hz⟩|⟨g,cap,rfl,_,hg2,hcs⟩
  ·have hnil:ps=[]:=List.eq_nil_of_length_eq_zero hz
   subst hnil
   go_wp2_with (at_builtin;refine wpList_append_own_none _ rfl _ _ 140 rfl w1.heap.size 40 i0 1 Tryz.underlying140 HIn.out.1 _ 1 [.string (tyB r)] rfl HN.out rfl ?_)
   go_meet
   refine⟨rfl,rfl,⟨w1.heap.size,1,rfl,by simp,fun j hj=>?_⟩,HB1.out.alloc HB1.out.size _⟩;obtain rfl:j=0:=by simp at hj;omega
   simp
  ·have hA:=Hd (show Below w1.heap.size w1 (w1.alloc (.cells #[.string (tyB r)] 40)) from (zv3 _ _).alloc (zv0 _) _)
   have hnews:∀j u,(ps.map fun p=>Value.string (tyB p))[j]?=some u→(w1.alloc (.cells #[.string (tyB r)] 40)).cell? ((⟨g,0,none⟩:Addr).add j)=some u:=fun j u hj=>by
    rw[zjt,hA.out.cell (p:=⟨g,j,none⟩) hg2];exact hcs j u hj
   have HNw:=Hd hnews;have hlen:(ps.map fun p=>Value.string (tyB p)).length=ps.length*1:=by simp
   have HLn:=Hd hlen;clear hcs hnews hlen
   go_wp2_with (at_builtin;refine wpList_append_own _ rfl _ _ 140 rfl w1.heap.size 40 i0 (.string ⟨#[]⟩) 1 16 Tryz.underlying140 HIn.out.1 HIn.out.2.1 HIn.out.2.2.1 HIn.out.2.2.2 rfl (by decide) _ 1 [.string (tyB r)] rfl HN.out ⟨g,0,none⟩ ps.length cap (ps.map fun p=>Value.string (tyB p)) rfl HLn.out HNw.out (zvO ps) ?c3 ?c4 ?c5 ?_)
   case c3=>unfold maxLen;omega
   case c4=>omega
   case c5=>simp
   intro v6 w6 hown hgrow hne;rcases zpL hown with ⟨rfl,hz⟩|⟨g6,cap6,rfl,hg61,hg62,hcs⟩
   ·omega
   ·have HC:=Hd hcs
    have HB6:=Hd ((HB1.out.alloc HB1.out.size _).grown hgrow (zv6 HB1.out.size hA.out.size) (fun q e=>by have:=(HN.out.lt _ e).1;have:=HB1.out.size;omega));clear hown hgrow hne hcs
    go_wp2_with fail
    go_meet
    refine⟨by congr 1;simp;omega,rfl,⟨g6,cap6,by congr 1;simp;omega,hg62,fun j hj=>HC.out j _ ?_⟩,HB6.out⟩;cases j with
    | zero=>simp
    | succ j=>
      have hj':j<ps.length:=by simpa using hj
      simp[hj']
 case rest=>
  obtain⟨rfl,rfl,⟨g,cap,rfl,hg,hcs⟩,hb6⟩:=hcut;have HC:=Hd hcs;have HB6:=Hd hb6;have hQ:(r :: ps).length≤65537:=by simp;omega
  generalize hq:r :: ps=Q at *;have HQ:=Hd hq;clear hcs hb6 HO HB1 HN hq
  go_wp2_with fail
  go_loopw [60] (fun i wr=>∃k:Nat,k≤Q.length∧i=.int .i64 k∧Hid (∀j (hj:j<Q.length),j<k→sizedT K Q[j]=true)∧Below wc.heap.size wc wr) (fun i _=>Q.length-(intOf i).toNat)
  case atStart=>exact⟨0,Nat.zero_le _,rfl,fun j _ h=>by omega,zv3 _ _⟩
  case round=>
   obtain⟨k,hk,rfl,hno,hb⟩:=hrel;have HBr:=Hd hb;have HBw:=Ht HB6 hb;have hsz:=hb.size
   by_cases hlt:k<Q.length
   ·have hck:wr.cell? ⟨g,k,none⟩=some (.string (tyB Q[k])):=by
     rw[hb.cell (p:=⟨g,k,none⟩) hg];exact HC.out k hlt
    have hD:=HI.out Q[k] (zwb hlt);unfold zdI at hD;have HD:=Hd (hD wr (HE.out.below HBw.out) (HK.out.below HBw.out));clear hb hD;rcases hgd:sizedT K Q[k] with _|_
    ·have hfin:=Hd (show Q.all (sizedT K)=false by
      rw[Bool.eq_false_iff];intro e;have:=List.all_eq_true.1 e Q[k] (zwb hlt)
      rw[hgd]at this;cases this)
     rw[hgd]at HD;generalize tyB Q[k]=st at *;clear hgd
     go_wp2_with (go_at_call 133;(with_reducible refine HD.out.mono ?_))
     rintro e w7 ⟨rfl,hb7⟩
     go_wp2_with fail
     go_ret;exact⟨by rw[HQ.out,hfin.out];rfl,HBw.out.trans (hb7.mono HBw.out.size)⟩
    ·have HN:=Hd (show ∀j (hj:j<Q.length),j<k+1→sizedT K Q[j]=true from fun j hj h=>by
      rcases Nat.lt_or_ge j k with h'|h'
      ·exact hno.out j hj h'
      ·obtain rfl:j=k:=by omega
       exact hgd)
     rw[hgd]at HD;generalize tyB Q[k]=st at *;clear hgd
     go_wp2_with (go_at_call 133;(with_reducible refine HD.out.mono ?_))
     rintro e w7 ⟨rfl,hb7⟩;have HB7:=Hd (HBr.out.trans (hb7.mono hsz));clear hb7
     go_wp2_with fail
     go_roundw
     case rel=>exact⟨k+1,by omega,by go_num,HN,HB7.out⟩
     case measure=>simp[intOf];omega
   ·obtain rfl:k=Q.length:=by omega
    have hfin:=Hd (show Q.all (sizedT K)=true by
     rw[List.all_eq_true];intro p hp;obtain⟨j,hj,rfl⟩:=List.getElem_of_mem hp
     exact hno.out j hj hj)
    clear hno hb
    go_wp2_with fail
    go_ret;exact⟨by rw[HQ.out,hfin.out];rfl,HBw.out⟩
theorem zdR (hF:FitK K):∀(n:Nat) (t:Ty),(code t).length≤n→zaD t→(code t).length≤65536→shapeT t=true→zdI B b mb lv sv av mv K t
 | 0,t,hn,hr,_,_=>by have:=zb7 hr;omega
 | n+1,t,hn,hr,hl,hs=>by
   cases t with
   | base c=>exact zhX _ (by rcases zaM hr with rfl|rfl|rfl|rfl|rfl|rfl<;>decide) (by rcases zaM hr with rfl|rfl|rfl|rfl|rfl|rfl<;>decide) (by rcases zaM hr with rfl|rfl|rfl|rfl|rfl|rfl<;>decide) (by rw[sizedT])
   | str s=>exact zhX _ (by simp[headT]) (by simp[headT]) (by simp[headT]) (by rw[sizedT])
   | ptr u=>exact zpn u (zdR hF n u (by rw[code]at hn;simp at hn;omega) hr (by rw[code]at hl;simp at hl;omega) (by rwa [shapeT]at hs))
   | arr m u=>
     have hs':=hs;rw[shapeT,Bool.and_eq_true,Bool.and_eq_true]at hs';exact zpo m u hr hl hs hF (zdR hF n u (by rw[code]at hn;simp at hn;omega) hr.2 (by rw[code]at hl;simp at hl;omega) hs'.2.2)
   | fn ps r=>
     rw[shapeT,Bool.and_eq_true,Bool.and_eq_true,Bool.and_eq_true]at hs;refine zr1 ps r hr hl fun p hp=>?_
     rw[code]at hn hl;simp at hn hl;rcases List.mem_cons.1 hp with rfl|hp
     ·exact zdR hF n p (by omega) hr.2 (by omega) hs.2.2.1
     ·have h1:=zdj hp
      have h2:zaD p:=by
       obtain⟨a,b,rfl⟩:=List.append_of_mem hp;exact zcC hr.1
      have h3:shapeT p=true:=by
       have:=List.all_eq_true.1 (zfz ps▸hs.2.2.2) p hp;simp only[Bool.and_eq_true]at this;exact this.2
      exact zdR hF n p (by omega) h2 (by omega) h3
end
set_option maxHeartbeats 2000000
theorem zmb {s:ByteArray}{t:Ty}(h:tyS s=some t):zce s=zaS t:=by unfold zce;rw[h]
theorem zb1 {K:List Kn}{s:ByteArray}(h:tyS s=none):checkS K s=2:=by unfold checkS;rw[h]
theorem zb0 {K:List Kn}{s:ByteArray}{t:Ty}(h:tyS s=some t):checkS K s=zbA K t:=by unfold checkS;rw[h]
theorem zpE {a b:Int}(h:a=b):Ending.returned (.int .i64 a)=.returned (.int .i64 b):=by rw[h]
section
variable {B b mb:Nat} {lv sv av:Value} {mv:List Value} {K:List Kn}
theorem zjm (s:ByteArray)(w:World)(hE:TE w)(hK:KnAt B w b mb lv sv av mv K)(hF:FitK K) :
 Calls Tryz.prog 111 #[.pointer (some ⟨b,0,none⟩),.string s] w fun e w'=>e=.returned (.int .i64 (checkS K s))∧Below w.heap.size w w':=by
 have HE:=Hd hE;have HK:=Hd hK;have HD:=Hd (znk s w hE.keys hE.lt);rcases ht:tyS s with _|t
 ·have hfin:=Hd (zb1 (K:=K) ht)
  rw[show zce s=0 by unfold zce;rw[ht]]at HD;clear hE hK ht
  go_enter Tryz.func111,Tryz.ntmps111
  go_wp2_with (go_at_call 130;refine HD.out.mono ?_)
  rintro e w1 ⟨rfl,hb1⟩
  go_wp2_with fail
  go_ret;exact⟨by rw[hfin.out];rfl,hb1⟩
 ·obtain⟨es,hr,hl⟩:=zaW.1 ht
  rw[zmb ht]at HD;have hpos:=zcK t;have HCh:=Hd (zb0 (K:=K) ht);subst es;have hsh:=zdS _ t (zv0 _) hr hl;unfold zch at hsh;have HSh:=Hd hsh;have HTh:=Hd (fun w hE hK=>ziN (B:=B) (b:=b) (mb:=mb) (lv:=lv) (sv:=sv) (av:=av) (mv:=mv) (K:=K) t w hr hl hE hK);have hsz:=fun h=>zdR (B:=B) (b:=b) (mb:=mb) (lv:=lv) (sv:=sv) (av:=av) (mv:=mv) hF _ t (zv0 _) hr hl h
  unfold zdI at hsz;have HSz:=Hd hsz;have t0:((zaS t:Int) == 0)=false:=by rw[zwa];omega
  generalize tyB t=s at *;clear hE hK ht hr hl hsh hsz hF hpos
  by_cases hdp:48<zaS t
  ·have hfin:=Hd (show checkS K s=3 by rw[HCh.out,zbA,if_pos hdp])
   have t1:(48:Int)<(zaS t:Int):=by omega
   generalize (zaS t:Int)=d at *;clear hdp
   go_enter Tryz.func111,Tryz.ntmps111
   go_wp2_with (go_at_call 130;(with_reducible refine HD.out.mono ?_))
   rintro e w1 ⟨rfl,hb1⟩
   go_wp2_with fail
   go_ret;exact⟨by rw[hfin.out];rfl,hb1⟩
  ·have t1:(zaS t:Int)≤48:=by omega
   rcases h1:shapeT t with _|_
   ·have H1:=Hd h1
    have hfin:=Hd (show checkS K s=5 by rw[HCh.out,zbA,if_neg hdp,if_pos h1]);clear h1 hdp;generalize (zaS t:Int)=d at *
    go_enter Tryz.func111,Tryz.ntmps111
    go_wp2_with (go_at_call 130;(with_reducible refine HD.out.mono ?_))
    rintro e w1 ⟨rfl,hb1⟩;have HB1:=Hd hb1;clear hb1;have HS1:=Hd (HSh.out _ (HE.out.below HB1.out));rw[H1.out]at HS1
    go_wp2_with (go_at_call 131;(with_reducible refine HS1.out.mono ?_))
    rintro e w2 ⟨rfl,hb2⟩;have HB2:=Ht HB1 hb2;clear hb2
    go_wp2_with fail
    go_ret;exact⟨by rw[hfin.out];rfl,HB2.out⟩
   ·have H1:=Hd h1
    rcases h2:thereT K t with _|_
    ·have H2:=Hd h2
     have hfin:=Hd (show checkS K s=4 by rw[HCh.out,zbA,if_neg hdp,if_neg (by rw[h1];simp),if_pos h2]);clear h1 h2 hdp;generalize (zaS t:Int)=d at *
     go_enter Tryz.func111,Tryz.ntmps111
     go_wp2_with (go_at_call 130;(with_reducible refine HD.out.mono ?_))
     rintro e w1 ⟨rfl,hb1⟩;have HB1:=Hd hb1;clear hb1;have HS1:=Hd (HSh.out _ (HE.out.below HB1.out));rw[H1.out]at HS1
     go_wp2_with (go_at_call 131;(with_reducible refine HS1.out.mono ?_))
     rintro e w2 ⟨rfl,hb2⟩;have HB2:=Ht HB1 hb2;clear hb2;have HT2:=Hd (HTh.out _ (HE.out.below HB2.out) (HK.out.below HB2.out));rw[H2.out]at HT2
     go_wp2_with (go_at_call 132;(with_reducible refine HT2.out.mono ?_))
     rintro e w3 ⟨rfl,hb3⟩;have HB3:=Ht HB2 hb3;clear hb3
     go_wp2_with fail
     go_ret;exact⟨by rw[hfin.out];rfl,HB3.out⟩
    ·have H2:=Hd h2
     rcases h3:sizedT K t with _|_
     ·have H3:=Hd h3
      have hfin:=Hd (show checkS K s=3 by rw[HCh.out,zbA,if_neg hdp,if_neg (by rw[h1];simp),if_neg (by rw[h2];simp),if_pos h3]);clear h1 h2 h3 hdp;generalize (zaS t:Int)=d at *
      go_enter Tryz.func111,Tryz.ntmps111
      go_wp2_with (go_at_call 130;(with_reducible refine HD.out.mono ?_))
      rintro e w1 ⟨rfl,hb1⟩;have HB1:=Hd hb1;clear hb1;have HS1:=Hd (HSh.out _ (HE.out.below HB1.out));rw[H1.out]at HS1
      go_wp2_with (go_at_call 131;(with_reducible refine HS1.out.mono ?_))
      rintro e w2 ⟨rfl,hb2⟩;have HB2:=Ht HB1 hb2;clear hb2;have HT2:=Hd (HTh.out _ (HE.out.below HB2.out) (HK.out.below HB2.out));rw[H2.out]at HT2
      go_wp2_with (go_at_call 132;(with_reducible refine HT2.out.mono ?_))
      rintro e w3 ⟨rfl,hb3⟩;have HB3:=Ht HB2 hb3;clear hb3;have HZ3:=Hd (HSz.out H1.out _ (HE.out.below HB3.out) (HK.out.below HB3.out));rw[H3.out]at HZ3
      go_wp2_with (go_at_call 133;(with_reducible refine HZ3.out.mono ?_))
      rintro e w4 ⟨rfl,hb4⟩;have HB4:=Ht HB3 hb4;clear hb4
      go_wp2_with fail
      go_ret;exact⟨by rw[hfin.out];rfl,HB4.out⟩
     ·have H3:=Hd h3
      have hfin:=Hd (show checkS K s=0 by rw[HCh.out,zbA,if_neg hdp,if_neg (by rw[h1];simp),if_neg (by rw[h2];simp),if_neg (by rw[h3];simp)]);clear h1 h2 h3 hdp;generalize (zaS t:Int)=d at *
      go_enter Tryz.func111,Tryz.ntmps111
      go_wp2_with (go_at_call 130;(with_reducible refine HD.out.mono ?_))
      rintro e w1 ⟨rfl,hb1⟩;have HB1:=Hd hb1;clear hb1;have HS1:=Hd (HSh.out _ (HE.out.below HB1.out));rw[H1.out]at HS1
      go_wp2_with (go_at_call 131;(with_reducible refine HS1.out.mono ?_))
      rintro e w2 ⟨rfl,hb2⟩;have HB2:=Ht HB1 hb2;clear hb2;have HT2:=Hd (HTh.out _ (HE.out.below HB2.out) (HK.out.below HB2.out));rw[H2.out]at HT2
      go_wp2_with (go_at_call 132;(with_reducible refine HT2.out.mono ?_))
      rintro e w3 ⟨rfl,hb3⟩;have HB3:=Ht HB2 hb3;clear hb3;have HZ3:=Hd (HSz.out H1.out _ (HE.out.below HB3.out) (HK.out.below HB3.out));rw[H3.out]at HZ3
      go_wp2_with (go_at_call 133;(with_reducible refine HZ3.out.mono ?_))
      rintro e w4 ⟨rfl,hb4⟩;have HB4:=Ht HB3 hb4;clear hb4
      go_wp2_with fail
      go_ret;exact⟨by rw[hfin.out];rfl,HB4.out⟩
end
end Go.Proofs.YtbbaooeioogijaaGreatDoor
namespace Go.Proofs.YtbbaooeioogijaaGreatDoor
open Go.RowKit Go.Maps
set_option maxRecDepth 100000
set_option maxHeartbeats 1000000
theorem zp6 {w:World}:NamesAt (w.alloc (.map #[] 0)) w.heap.size []:=
 ⟨.map [],World.ownsMap_made _ _ _ _,fun _=>⟨rfl,rfl⟩⟩
theorem zi5 {B:Nat}{w:World}{b mb:Nat}(hblk:w.heap[b]?=some (.cells #[.slice none 0 0,.map (some mb),.slice none 0 0,.slice none 0 0] 168 (0,0)))(hb:B≤b∧B≤mb∧b≠mb)(hn:NamesAt w mb []) :
 KnAt B w b mb (.slice none 0 0) (.slice none 0 0) (.slice none 0 0) [] []:=
 ⟨hblk,hb,hn,World.ownsRow_nil _ _ _ _,World.ownsRow_nil _ _ _ _,World.ownsRow_nil _ _ _ _,rfl,fun k=>⟨(fun h=>by cases h),(fun h=>by cases h),(fun h=>by cases h)⟩⟩
theorem zjf:FitK []:=⟨by decide,fun k h=>by cases h⟩
theorem zab {w:World}{b:Nat}{a0 a1:Value}{T:TypeId}(h:w.heap[b]?=some (.cells #[a0,a1] T (0,0))) :
 (w.cell? ⟨b,0,none⟩=some a0∧w.cell? ⟨b,1,none⟩=some a1)∧∀j,w.frozen? ⟨b,j,none⟩=false:=by
 refine⟨⟨?_,?_⟩,fun j=>?_⟩
 ·simp[World.cell?,h]
 ·simp[World.cell?,h]
 ·simp[World.frozen?,h]
theorem za5 {w0 w:World}(h:Below w0.heap.size w0 w)(v v':Value):Below w0.heap.size w0 ((w.setCell ⟨w0.heap.size,0,none⟩ v).setCell ⟨w0.heap.size,1,none⟩ v'):=
 (h.setCell (zv0 _) _).setCell (zv0 _) _
theorem NamesAt.other {w:World}{b:Nat}{K:List Kn}(h:NamesAt w b K)(a:Addr)(ha:b≠a.block)(v:Value):NamesAt (w.setCell a v) b K:=by
 obtain⟨D,hD,hv⟩:=h;exact⟨D,hD.setCell ha v,hv⟩
def learntW (w:World):World:=((w.alloc (.cells #[.int .i64 0,.int .i64 0] 32)).alloc (.map #[] 0)).alloc (.cells #[.slice none 0 0,.map (some (w.heap.size+1)),.slice none 0 0,.slice none 0 0] 168)
theorem zim (w:World):((w.alloc (.cells #[.int .i64 0,.int .i64 0] 32)).alloc (.map #[] 0)).alloc (.cells #[.slice none 0 0,.map (some (w.heap.size+1)),.slice none 0 0,.slice none 0 0] 168)=learntW w:=rfl
theorem zkv (w:World):(learntW w).heap.size=w.heap.size+3:=by simp[learntW]
theorem zfe (w:World):Below w.heap.size w (learntW w):=
 (((zv3 _ _).alloc (zv0 _) _).alloc (by simp) _).alloc (by simp;omega) _
theorem zin (w:World):(learntW w).heap[w.heap.size]?=some (.cells #[.int .i64 0,.int .i64 0] 32 (0,0)):=by
 have h:Below (w.heap.size+1) (w.alloc (.cells #[.int .i64 0,.int .i64 0] 32)) (learntW w):=
  ((zv3 _ _).alloc (by simp) _).alloc (by simp) _
 rw[h.block _ (by omega)];exact zv8 _ _
theorem zel (w:World):KnAt w.heap.size (learntW w) (w.heap.size+2) (w.heap.size+1) (.slice none 0 0) (.slice none 0 0) (.slice none 0 0) [] []:=by
 have e:((w.alloc (.cells #[.int .i64 0,.int .i64 0] 32)).alloc (.map #[] 0)).heap.size=w.heap.size+2:=by simp
 refine zi5 (by rw[← e];exact zv8 _ _) ⟨by omega,by omega,by omega⟩ ?_;have h:=zp6 (w:=w.alloc (.cells #[.int .i64 0,.int .i64 0] 32));rw[World.size_alloc]at h;refine h.below (?_:Below _ _ (learntW w));rw[learntW];exact(zv3 _ _).alloc (zv0 _) _
theorem zlZ (w:World)(v v':Value):KnAt w.heap.size (((learntW w).setCell ⟨w.heap.size,0,none⟩ v).setCell ⟨w.heap.size,1,none⟩ v') (w.heap.size+2) (w.heap.size+1) (.slice none 0 0) (.slice none 0 0) (.slice none 0 0) [] []:=by
 have h:=zel w;refine zi5 ?_ h.base ((h.names.other _ (by simp) _).other _ (by simp) _);rw[Below.heap_setCell _ _ _ _ (by simp),Below.heap_setCell _ _ _ _ (by simp)];exact h.blk
theorem zqt (a:Option Addr)(cap:Nat)(w:World):Calls Tryz.prog 79 #[.slice a 0 cap] w fun e w'=>∃b mb,e=.returned (.tuple #[.pointer (some ⟨b,0,none⟩),.agg #[.int .i64 0,.int .i64 0]])∧w.heap.size≤b∧KnAt w.heap.size w' b mb (.slice none 0 0) (.slice none 0 0) (.slice none 0 0) [] []∧Below w.heap.size w w':=by
 have hmm:=@run_makeMap Tryz.prog;have hat:=zin w;obtain⟨⟨d0,d1⟩,fd⟩:=zab hat;have fd0:=fd 0;have fd1:=fd 1;have hfin:∀v v',KnAt w.heap.size (((learntW w).setCell ⟨w.heap.size,0,none⟩ v).setCell ⟨w.heap.size,1,none⟩ v') (w.heap.size+2) (w.heap.size+1) (.slice none 0 0) (.slice none 0 0) (.slice none 0 0) [] []:=fun v v'=>zlZ w v v'
 have HF:=Hd hfin;have HB:=Hd fun v v'=>za5 (zfe w) v v'
 clear hfin hat fd
 go_enter Tryz.func79,Tryz.ntmps79
 go_wp2_with fail
 rw[zim];generalize learntW w=w1 at *
 go_loop [17] (fun i=>i=.int .i64 0) (fun _=>0)
 case atStart=>rfl
 case round=>
  obtain rfl:=hrel
  go_wp2_with fail
  exact bodyPost_ret (v:=.tuple #[.pointer (some ⟨w.heap.size+2,0,none⟩),.agg #[.int .i64 0,.int .i64 0]]) (by simp[results,Tryz.results79,go_sem,d0,d1]) rfl ⟨_,rfl,by omega,⟨_,HF.out _ _⟩,HB.out _ _⟩
theorem zmf (s:ByteArray)(w:World)(hE:TE w):Calls Tryz.prog 81 #[.string s,.slice none 0 0] w fun e w'=>e=.returned (.int .i64 (checkS [] s))∧Below w.heap.size w w':=by
 have HE:=Hd hE;have HL:=Hd (zqt none 0 w);clear hE
 go_enter Tryz.func81,Tryz.ntmps81
 go_wp2_with (go_at_call 79;(with_reducible refine HL.out.mono ?_))
 rintro e w1 ⟨b,mb,rfl,hge,hk,hb1⟩;have HB1:=Hd hb1;have hg:Below (w1.heap.size) w1 (w1.alloc (.cells #[.int .i64 0,.int .i64 0] 32)):=(zv3 _ _).alloc (zv0 _) _;have HC:=Hd (zjm s _ (HE.out.below (hb1.trans (hg.mono hb1.size))) (hk.below hg) zjf);clear hk hb1 hg
 go_wp2_with (go_at_call 111;(with_reducible refine HC.out.mono ?_))
 rintro e w2 ⟨rfl,hb2⟩
 go_wp2_with fail
 go_ret;exact⟨rfl,HB1.out.trans ((((zv3 _ _).alloc (zv0 _) _).trans (hb2.mono (by simp))).mono HB1.out.size)⟩
def MapF (w:World)(b n:Nat)(f:List UInt8→Int × Bool):Prop:=∃D:DataW Unit,w.ownsMap Tryz.prog 9 (plainElem Tryz.prog 3) b n D ∧
 ∀s:List UInt8,has D (.string s)=(f s).2∧D.atKey (.string s) (.lit (.int .i64 0))=.lit (.int .i64 (f s).1)
theorem NamesAt.def {w:World}{b:Nat}{K:List Kn}:NamesAt w b K↔MapF w b K.length (zcv K):=Iff.rfl
theorem MapF.same {w:World}{b n:Nat}{f g:List UInt8→Int × Bool}(h:MapF w b n f)(e:∀s,f s=g s):MapF w b n g:=by
 obtain⟨D,hD,hv⟩:=h;exact⟨D,hD,fun s=>by rw[← e s];exact hv s⟩
theorem MapF.look {w:World}{b n:Nat}{f:List UInt8→Int × Bool}(h:MapF w b n f){s:ByteArray}(hs:s.size≤maxLen) :
 (Instr.lookup 111 (.map (some b)) (.string s) false).run Tryz.prog w=.ok (.int .i64 (f s.data.toList).1) w:=by
 obtain⟨D,hD,hv⟩:=h;have hkey:=Go.WideMaps.keyOf_string_mk (P:=Tryz.prog) Tryz.underlying9 hs;obtain⟨c,hrun,hat,_⟩:=hD.lookup_int zqv Tryz.underlying111 Tryz.underlying3 (zva w) hkey;obtain⟨_,h2⟩:=hv s.data.toList;rw[h2]at hat;simp only[DataW.lit.injEq,Lit.int.injEq,true_and]at hat;rw[hat];exact hrun
theorem MapF.other {w:World}{b n:Nat}{f:List UInt8→Int × Bool}(h:MapF w b n f)(a:Addr)(ha:b≠a.block)(v:Value):MapF (w.setCell a v) b n f:=by
 obtain⟨D,hD,hv⟩:=h;exact⟨D,hD.setCell ha v,hv⟩
theorem MapF.below {w w':World}{b n:Nat}{f:List UInt8→Int × Bool}(h:MapF w b n f)(hb:Below w.heap.size w w'):MapF w' b n f:=by
 obtain⟨D,hD,hv⟩:=h;exact⟨D,hD.kept (row:=none) ⟨hb.os,hb.tape,hb.output,hb.size,fun k hk _=>hb.block k hk⟩ (by simp),hv⟩
theorem zsY {w:World}:MapF (w.alloc (.map #[] 0)) w.heap.size 0 (fun _=>(0,false)):=
 ⟨.map [],World.ownsMap_made _ _ _ _,fun _=>⟨rfl,rfl⟩⟩
theorem MapF.store {w:World}{b n:Nat}{f:List UInt8→Int × Bool}(h:MapF w b n f)(hn:n<maxLen){s:ByteArray}(hs:s.size≤maxLen){v:Int}(hv:(Lit.int .i64 v).wf=true) :
 ∃w',(Instr.mapUpdate 111 (.map (some b)) (.string s) (.int .i64 v)).run Tryz.prog w=.ok () w' ∧
  MapF w' b (n+1) (fun t=>if t=s.data.toList then (v,true) else f t)∧w.mapTurned w' b:=by
 obtain⟨D,hD,hf⟩:=h;have hkey:=Go.WideMaps.keyOf_string_mk (P:=Tryz.prog) Tryz.underlying9 hs;obtain⟨w',hrun,h1,h2⟩:=hD.store zqv Tryz.underlying111 hn hkey (plainElem_int (H:=Unit) Tryz.underlying3 hv);refine⟨w',hrun,⟨_,h1,fun t=>?_⟩,h2⟩
 by_cases e:t=s.data.toList
 ·subst e
  simp only[if_true];exact⟨has_put_same hD.isMap (by simp[WideAt.IsKeyLit]) _,atKey_put_same hD.isMap (by simp[WideAt.IsKeyLit]) _ _⟩
 ·simp only[if_neg e]
  have e':Lit.string t≠Lit.string s.data.toList:=fun h=>e (Lit.string.inj h)
  rw[has_put_other e',atKey_put_other e'];exact hf t
theorem zeb {w0 w w':World}{b B:Nat}(h:Below B w0 w)(hB:B≤w0.heap.size)(hb:B≤b)(ht:w.mapTurned w' b):Below B w0 w':=by
 have hg:=ht.grown;exact⟨hg.os.trans h.os,hg.tape.trans h.tape,hg.output.trans h.output,zv6 h.size hg.size,fun k hk=>(hg.block k (zv5 hk (zv6 hB h.size)) (by simp;omega)).trans (h.block k hk)⟩
theorem ziz (K:List Kn)(k:Kn)(s:List UInt8):za3 (K++[k]) s=(za3 K s).or (if s=k.name.data.toList then some K.length else none):=by
 unfold za3;rw[List.findIdx?_append]
 congr 1
 by_cases h:s=k.name.data.toList
 ·simp[List.findIdx?_cons,h]
 ·have h':¬k.name.data.toList=s:=fun e=>h e.symm
  simp[List.findIdx?_cons,h,h']
theorem zos (K:List Kn)(k:Kn)(hno:(za3 K k.name.data.toList).isSome=false)(s:List UInt8) :
 zcv (K++[k]) s=if s=k.name.data.toList then ((K.length:Int),true) else zcv K s:=by
 unfold zcv;rw[ziz]
 by_cases h:s=k.name.data.toList
 ·subst h
  have:za3 K k.name.data.toList=none:=by simpa using hno
  rw[this,if_pos rfl];simp
 ·rw[if_neg h,if_neg h]
  cases za3 K s<;>rfl
theorem zqj (K:List Kn)(s:List UInt8):(zcv K s).2=(za3 K s).isSome:=by
 unfold zcv;cases za3 K s<;>rfl
theorem zlR {K:List Kn}(hF:FitK K):∀t:Ty,1≤(measT K t).2∧(measT K t).2≤4
 | .base c=>by
   rw[measT]
   split
   ·exact⟨zv0 _,by decide⟩
   ·split
    ·exact⟨by decide,by decide⟩
    ·split<;>exact⟨by decide,by decide⟩
 | .ptr _=>by rw[measT];exact⟨by decide,by decide⟩
 | .fn _ _=>by rw[measT];exact⟨by decide,by decide⟩
 | .arr n t=>by rw[measT];exact zlR hF t
 | .str s=>by
   rw[measT]
   split
   ·rename_i k hk
    obtain⟨i,_,hi⟩:=Option.bind_eq_some_iff.1 hk;exact(hF.2 k (List.mem_of_getElem? hi)).2
   ·exact⟨by decide,by decide⟩
theorem zhv {K:List Kn}{t:Ty}(h:zbA K t=0):shapeT t=true∧thereT K t=true∧sizedT K t=true:=by
 unfold zbA at h
 split at h
 ·simp at h
 ·split at h
  ·simp at h
  ·split at h
   ·simp at h
   ·split at h
    ·simp at h
    ·simp_all
theorem zus {K:List Kn}(hF:FitK K):∀t:Ty,zbA K t=0→(measT K t).1≤65536
 | .base c,_=>by
   rw[measT]
   split
   ·decide
   ·split
    ·decide
    ·split<;>decide
 | .ptr _,_=>by rw[measT];decide
 | .fn _ _,_=>by rw[measT];decide
 | .arr n t,h=>by
   obtain⟨_,h2,h3⟩:=zhv h;rw[sizedT,Bool.and_eq_true,Bool.or_eq_true]at h3;rw[thereT]at h2;rw[measT];rcases h3.2 with h4|h4
   ·rw[h2]at h4;simp at h4
   ·exact of_decide_eq_true h4
 | .str s,_=>by
   rw[measT]
   split
   ·rename_i k hk
    obtain⟨i,_,hi⟩:=Option.bind_eq_some_iff.1 hk;exact(hF.2 k (List.mem_of_getElem? hi)).1
   ·decide
theorem zuW {p:Nat × Nat}(h:p.1≤65536):capM p=p:=by
 obtain⟨a,b⟩:=p;simp only[capM,Prod.mk.injEq,and_true];simp only at h;omega
theorem zkO (n a:Nat)(h1:1≤a)(h4:a≤4):n≤fitN n a∧fitN n a≤n+3:=by
 unfold fitN;have:a=1∨a=2∨a=3∨a=4:=by omega
 rcases this with rfl|rfl|rfl|rfl<;>omega
def zgN (seen:List ByteArray)(t:List UInt8):Int × Bool:=if Lib.containsS seen ⟨t.toArray⟩=true then (1,true) else (0,false)
theorem zpy (seen:List ByteArray)(m:ByteArray)(t:List UInt8):(if t=m.data.toList then ((1:Int),true) else zgN seen t)=zgN (seen++[m]) t:=by
 unfold zgN
 by_cases h:t=m.data.toList
 ·subst h
  rw[if_pos rfl,if_pos];rw[Lib.containsS_iff];simp
 ·rw[if_neg h]
  have:Lib.containsS (seen++[m]) ⟨t.toArray⟩=Lib.containsS seen ⟨t.toArray⟩:=by
   rw[Bool.eq_iff_iff,Lib.containsS_iff,Lib.containsS_iff,List.mem_append];constructor
   ·rintro(h1|h1)
    ·exact h1
    ·rw[List.mem_singleton]at h1
     exact absurd (by rw[← h1]) h
   ·exact .inl
  rw[this]
theorem zpA (seen:List ByteArray)(m:ByteArray):(zgN seen m.data.toList).1=if Lib.containsS seen m=true then 1 else 0:=by
 unfold zgN;rw[show (⟨m.data.toList.toArray⟩:ByteArray)=m by simp]
 split<;>rfl
theorem zsc (t:List UInt8):zgN [] t=(0,false):=by
 unfold zgN;rw[if_neg];rw[Lib.containsS_iff];simp
theorem zu4 {K:List Kn}{x:Sr}{k:Kn}(h:addK K x=.inr k):k.toSr=x∧(za3 K x.name.data.toList).isSome=false∧k.size≤65536:=by
 unfold addK at h
 split at h
 ·cases h
 ·split at h
  ·cases h
  ·rename_i h2
   split at h
   ·cases h
   ·split at h
    ·cases h
    ·split at h
     ·cases h
     ·split at h
      ·cases h
      ·obtain rfl:=Sum.inr.inj h
       exact⟨rfl,by simpa using h2,by simp only;omega⟩
structure KnR (B:Nat)(w:World)(b mb:Nat)(c0 c2 c3 lv sv av:Value)(n:Nat)(f:List UInt8→Int × Bool)(nl:Nat)(ll:List Value)(ns:Nat)(ls:List Value)(na:Nat)(la:List Value):Prop where
 blk:w.heap[b]?=some (.cells #[c0,.map (some mb),c2,c3] 168 (0,0))
 base:B≤b∧B≤mb∧b≠mb
 mlt:mb<w.heap.size
 names:MapF w mb n f
 sizes:w.ownsRow B 3 1 sv ns ls
 aligns:w.ownsRow B 3 1 av na la
 list:w.ownsRow B 61 2 lv nl ll
 apart:∀k,(sv.ownBlock=some k→k≠b∧k≠mb∧av.ownBlock≠some k∧lv.ownBlock≠some k)∧(av.ownBlock=some k→k≠b∧k≠mb∧lv.ownBlock≠some k)∧(lv.ownBlock=some k→k≠b∧k≠mb)
section
variable {B b mb:Nat} {w w':World} {c0 c2 c3 lv sv av:Value} {n:Nat} {f:List UInt8→Int × Bool} {nl ns na:Nat} {ll ls la:List Value}
theorem MapF.lt (h:MapF w mb n f):mb<w.heap.size:=by
 obtain⟨D,⟨es,clock,hb,_⟩,_⟩:=h;exact zaa hb
theorem KnAt.toR {mv:List Value}{K:List Kn}(h:KnAt B w b mb lv sv av mv K) :
 KnR B w b mb lv sv av lv sv av K.length (zcv K) K.length ((K.zip mv).flatMap fun q=>[.string q.1.name,q.2]) K.length (K.map fun k=>.int .i64 (k.size:Int)) K.length (K.map fun k=>.int .i64 (k.align:Int)):=
 ⟨h.blk,h.base,MapF.lt (NamesAt.def.1 h.names),h.names,h.sizes,h.aligns,h.list,h.apart⟩
theorem KnR.toAt {mv:List Value}{K:List Kn}(h:KnR B w b mb lv sv av lv sv av K.length (zcv K) K.length ((K.zip mv).flatMap fun q=>[.string q.1.name,q.2]) K.length (K.map fun k=>.int .i64 (k.size:Int)) K.length (K.map fun k=>.int .i64 (k.align:Int)))
 (hm:mv.length=K.length):KnAt B w b mb lv sv av mv K:=⟨h.blk,h.base,h.names,h.sizes,h.aligns,h.list,hm,h.apart⟩
theorem KnR.lt (h:KnR B w b mb c0 c2 c3 lv sv av n f nl ll ns ls na la):b<w.heap.size:=zaa h.blk
theorem KnR.below (h:KnR B w b mb c0 c2 c3 lv sv av n f nl ll ns ls na la)(hb:Below w.heap.size w w'):KnR B w' b mb c0 c2 c3 lv sv av n f nl ll ns ls na la:=
 ⟨by rw[hb.block b h.lt];exact h.blk,h.base,zv5 h.mlt hb.size,h.names.below hb,h.sizes.belowed hb,h.aligns.belowed hb,h.list.belowed hb,h.apart⟩
theorem KnR.cells (h:KnR B w b mb c0 c2 c3 lv sv av n f nl ll ns ls na la) :
 (w.cell? ⟨b,0,none⟩=some c0∧w.cell? ⟨b,1,none⟩=some (.map (some mb))∧w.cell? ⟨b,2,none⟩=some c2∧w.cell? ⟨b,3,none⟩=some c3)∧∀j,w.frozen? ⟨b,j,none⟩=false:=by
 refine⟨⟨?_,?_,?_,?_⟩,fun j=>?_⟩
 ·simp[World.cell?,h.blk]
 ·simp[World.cell?,h.blk]
 ·simp[World.cell?,h.blk]
 ·simp[World.cell?,h.blk]
 ·simp[World.frozen?,h.blk]
theorem MapF.kept {row:Option Nat}(h:MapF w mb n f)(hg:w.grownBy w' row)(hne:some mb≠row):MapF w' mb n f:=by
 obtain⟨D,hD,hv⟩:=h;exact⟨D,hD.kept hg hne,hv⟩
theorem zgr {e:TypeId}{size m:Nat}{v u:Value}{xs:List Value}(h:w.ownsRow B e size v m xs)(hg:w.grownBy w' u.ownBlock)(hne:∀k,u.ownBlock=some k→v.ownBlock≠some k):w'.ownsRow B e size v m xs:=by
 refine h.kept hg ?_;cases hv:v.ownBlock with
 | none=>exact .inl rfl
 | some k=>exact .inr fun e=>hne k e.symm hv
theorem zgO {e:TypeId}{size m:Nat}{v u:Value}{xs:List Value}(h:w.ownsRow B e size v m xs)(hg:w.grownBy w' u.ownBlock)(hne:∀k,v.ownBlock=some k→u.ownBlock≠some k):w'.ownsRow B e size v m xs:=
 zgr h hg fun k hk hv=>hne k hv hk
theorem KnR.grewS {sv':Value}{ns':Nat}{ls':List Value}(h:KnR B w b mb c0 c2 c3 lv sv av n f nl ll ns ls na la)(hg:w.grownBy w' sv.ownBlock)(ho:w'.ownsRow B 3 1 sv' ns' ls')
 (hs:∀k,sv'.ownBlock=some k→sv.ownBlock=some k∨k=w.heap.size):KnR B w' b mb c0 c2 c3 lv sv' av n f nl ll ns' ls' na la:=by
 have hb:some b≠sv.ownBlock:=fun e=>((h.apart b).1 e.symm).1 rfl
 have hm:some mb≠sv.ownBlock:=fun e=>((h.apart mb).1 e.symm).2.1 rfl
 refine⟨by rw[hg.block b h.lt hb];exact h.blk,h.base,zv5 h.mlt hg.size,h.names.kept hg hm,ho,zgr h.aligns hg fun k hk=>((h.apart k).1 hk).2.2.1,zgr h.list hg fun k hk=>((h.apart k).1 hk).2.2.2,fun k=>⟨fun hk=>?_,(h.apart k).2⟩⟩;rcases hs k hk with h1|rfl
 ·exact(h.apart k).1 h1
 ·have h1:=h.lt
  have h2:=h.mlt;exact⟨by omega,by omega,fun e=>absurd (h.aligns.lt _ e).2 (Nat.lt_irrefl _),fun e=>absurd (h.list.lt _ e).2 (Nat.lt_irrefl _)⟩
theorem KnR.grewA {av':Value}{na':Nat}{la':List Value}(h:KnR B w b mb c0 c2 c3 lv sv av n f nl ll ns ls na la)(hg:w.grownBy w' av.ownBlock)(ho:w'.ownsRow B 3 1 av' na' la')
 (hs:∀k,av'.ownBlock=some k→av.ownBlock=some k∨k=w.heap.size):KnR B w' b mb c0 c2 c3 lv sv av' n f nl ll ns ls na' la':=by
 have hb:some b≠av.ownBlock:=fun e=>((h.apart b).2.1 e.symm).1 rfl
 have hm:some mb≠av.ownBlock:=fun e=>((h.apart mb).2.1 e.symm).2.1 rfl
 refine⟨by rw[hg.block b h.lt hb];exact h.blk,h.base,zv5 h.mlt hg.size,h.names.kept hg hm,zgO h.sizes hg fun k hk=>((h.apart k).1 hk).2.2.1,ho,zgr h.list hg fun k hk=>((h.apart k).2.1 hk).2.2,fun k=>⟨fun hk=>⟨((h.apart k).1 hk).1,((h.apart k).1 hk).2.1,fun e=>?_,((h.apart k).1 hk).2.2.2⟩,fun hk=>?_,(h.apart k).2.2⟩⟩
 ·rcases hs k e with h1|rfl
  ·exact((h.apart k).1 hk).2.2.1 h1
  ·exact absurd (h.sizes.lt _ hk).2 (Nat.lt_irrefl _)
 ·rcases hs k hk with h1|rfl
  ·exact(h.apart k).2.1 h1
  ·have h1:=h.lt
   have h2:=h.mlt;exact⟨by omega,by omega,fun e=>absurd (h.list.lt _ e).2 (Nat.lt_irrefl _)⟩
theorem KnR.grewL {lv':Value}{nl':Nat}{ll':List Value}(h:KnR B w b mb c0 c2 c3 lv sv av n f nl ll ns ls na la)(hg:w.grownBy w' lv.ownBlock)(ho:w'.ownsRow B 61 2 lv' nl' ll')
 (hs:∀k,lv'.ownBlock=some k→lv.ownBlock=some k∨k=w.heap.size):KnR B w' b mb c0 c2 c3 lv' sv av n f nl' ll' ns ls na la:=by
 have hb:some b≠lv.ownBlock:=fun e=>((h.apart b).2.2 e.symm).1 rfl
 have hm:some mb≠lv.ownBlock:=fun e=>((h.apart mb).2.2 e.symm).2 rfl
 refine⟨by rw[hg.block b h.lt hb];exact h.blk,h.base,zv5 h.mlt hg.size,h.names.kept hg hm,zgO h.sizes hg fun k hk=>((h.apart k).1 hk).2.2.2,zgO h.aligns hg fun k hk=>((h.apart k).2.1 hk).2.2,ho,fun k=>⟨fun hk=>⟨((h.apart k).1 hk).1,((h.apart k).1 hk).2.1,((h.apart k).1 hk).2.2.1,fun e=>?_⟩,fun hk=>⟨((h.apart k).2.1 hk).1,((h.apart k).2.1 hk).2.1,fun e=>?_⟩,fun hk=>?_⟩⟩
 ·rcases hs k e with h1|rfl
  ·exact((h.apart k).1 hk).2.2.2 h1
  ·exact absurd (h.sizes.lt _ hk).2 (Nat.lt_irrefl _)
 ·rcases hs k e with h1|rfl
  ·exact((h.apart k).2.1 hk).2.2 h1
  ·exact absurd (h.aligns.lt _ hk).2 (Nat.lt_irrefl _)
 ·rcases hs k hk with h1|rfl
  ·exact(h.apart k).2.2 h1
  ·have h1:=h.lt
   have h2:=h.mlt;exact⟨by omega,by omega⟩
theorem KnR.turned {n':Nat}{f':List UInt8→Int × Bool}(h:KnR B w b mb c0 c2 c3 lv sv av n f nl ll ns ls na la)(ht:w.mapTurned w' mb)(hn:MapF w' mb n' f'):KnR B w' b mb c0 c2 c3 lv sv av n' f' nl ll ns ls na la:=by
 have hg:=ht.grown;refine⟨by rw[hg.block b h.lt (by simp only[ne_eq,Option.some.injEq];exact h.base.2.2)];exact h.blk,h.base,zv5 h.mlt hg.size,hn,h.sizes.kept hg ?_,h.aligns.kept hg ?_,h.list.kept hg ?_,h.apart⟩
 ·exact .inr fun e=>((h.apart mb).1 e).2.1 rfl
 ·exact .inr fun e=>((h.apart mb).2.1 e).2.1 rfl
 ·exact .inr fun e=>((h.apart mb).2.2 e).2 rfl
theorem zlp {e:TypeId}{size m:Nat}{v:Value}{xs:List Value}(h:w.ownsRow B e size v m xs)(a:Addr)(u:Value)(hne:v.ownBlock≠some a.block):(w.setCell a u).ownsRow B e size v m xs:=
 h.kept (row:=some a.block) ⟨rfl,rfl,rfl,by simp,fun k _ hk=>Below.heap_setCell _ _ _ _ (by simpa using hk)⟩ (.inr hne)
theorem KnR.put {c0' c2' c3':Value}(h:KnR B w b mb c0 c2 c3 lv sv av n f nl ll ns ls na la)(j:Nat)(u:Value)(hc:(#[c0,.map (some mb),c2,c3]:Array Value).setIfInBounds j u=#[c0',.map (some mb),c2',c3']) :
 KnR B (w.setCell ⟨b,j,none⟩ u) b mb c0' c2' c3' lv sv av n f nl ll ns ls na la:=by
 refine⟨?_,h.base,by simpa using h.mlt,h.names.other _ (by simpa using Ne.symm h.base.2.2) _,zlp h.sizes _ _ (fun e=>((h.apart b).1 e).1 rfl),zlp h.aligns _ _ (fun e=>((h.apart b).2.1 e).1 rfl),zlp h.list _ _ (fun e=>((h.apart b).2.2 e).1 rfl),h.apart⟩;rw[← hc];simp[World.setCell,Array.getElem?_modify,h.blk]
end
set_option maxHeartbeats 1000000
theorem zpZ (t:Ty)(hr:zaD t)(w:World):Calls Tryz.prog 125 #[.string (tyB t)] w fun e w'=>e=.returned (.bool (objectT t))∧w'=w:=by
 have hv:=zib hr 118;have h0:=(zau t).1;have hf:((((tyB t)[0]'h0).toNat:Int) == 102)=isFnT t:=zfh hr;have ho:objectT t=(!isC 118 t && !isFnT t):=by rw[objectT,zcd]
 generalize tyB t=s at *;rcases h1:isC 118 t with _|_
 ·rw[h1]at hv ho
  have hv':(s.toList != [118])=true:=by rw[bne,hv];rfl
  rcases h2:isFnT t with _|_
  ·rw[h2]at hf ho
   have hf':((s[0].toNat:Int) != 102)=true:=by rw[bne,hf];rfl
   have hfin:=Hd ho;clear ho h1 h2
   go_enter Tryz.func125,Tryz.ntmps125
   go_wp2_with fail
   go_ret;exact⟨by rw[hfin.out];rfl,rfl⟩
  ·rw[h2]at hf ho
   have hf':((s[0].toNat:Int) != 102)=false:=by rw[bne,hf];rfl
   have hfin:=Hd ho;clear ho h1 h2
   go_enter Tryz.func125,Tryz.ntmps125
   go_wp2_with fail
   go_ret;exact⟨by rw[hfin.out];rfl,rfl⟩
 ·rw[h1]at hv ho
  have hv':(s.toList != [118])=false:=by rw[bne,hv];rfl
  have hfin:=Hd ho;clear ho h1 hf
  go_enter Tryz.func125,Tryz.ntmps125
  go_wp2_with fail
  go_ret;exact⟨by rw[hfin.out];rfl,rfl⟩
theorem ztS (n a:Nat)(hn:n≤8388608)(h1:1≤a)(h4:a≤4)(w:World):Calls Tryz.prog 127 #[.int .i64 (n:Int),.int .i64 (a:Int)] w fun e w'=>e=.returned (.int .i64 (fitN n a:Nat))∧w'=w:=by
 have hfin:=Hd (show fitN n a=(n+a-1) / a*a from rfl);have hb:=zkO n a h1 h4;have:a=1∨a=2∨a=3∨a=4:=by omega
 generalize fitN n a=r at *;rcases this with rfl|rfl|rfl|rfl
 all_goals
  go_enter Tryz.func127,Tryz.ntmps127
  go_wp2_with fail
  go_ret;refine⟨zpE ?_,rfl⟩;have:=hfin.out;omega
end Go.Proofs.YtbbaooeioogijaaGreatDoor
namespace Go
section
variable {P:Program} {ops:Array Oper} {Q:Exit→Act→World→Prop} {md:Region.Mode} {S:World→Prop} {T:Nat→Bool}
def zgJ (P:Program)(w:World)(v:Value):Result Next→Prop
 | .ok (.value u) w'=>u=v∧w'=w
 | .ok (.enter f args) w'=>w'=w∧Calls P f args w fun e w''=>e=.returned v∧w''=w
 | _=>False
def YieldsS (P:Program)(ops:Array Oper)(S:World→Prop)(o:Oper)(v:Value)(a:Act):Prop:=
 (Region.wanted o (yielded ops a.tmps)=true∧∀w,S w→zgJ P w v ((execOp a.eval o).run P w)) ∨
 (Region.wanted o (yielded ops a.tmps)=false∧v=undef)
theorem YieldsS.wpOp {i:Nat}{o:Oper}{v:Value}{a:Act}(hi:ops[i]?=some o)(hy:YieldsS P ops S o v a)
 {K:Act→World→Prop} {w:World} (hS:S w) (h:K (a.put o.dst v) w):wpOp P ops Q i K a w:=by
 unfold Go.wpOp;simp only[hi];rcases hy with ⟨hw,hv⟩|⟨hw,rfl⟩
 ·simp only[hw,if_true,Oper.wp]
  left
  have h1:=hv w hS;generalize (execOp a.eval o).run P w=r at *;cases r with
  | ok n w'=>
    cases n<;>simp only[zgJ]at h1<;>simp only[Oper.upon]
    case value u=>
     obtain⟨rfl,rfl⟩:=h1;exact h
    case enter f args=>
     obtain⟨rfl,hc⟩:=h1;exact hc.mono fun e w'' ⟨he,hw''⟩=>by subst he;subst hw'';exact h
  | halt x w'=>simp only[zgJ]at h1
 ·simp only[hw,Bool.false_eq_true,if_false];exact h
theorem YieldsS.of_same {o:Oper}{v:Value}{a a':Act}(hy:YieldsS P ops S o v a)(he:execOp a'.eval o=execOp a.eval o)
 (hw:Region.wanted o (yielded ops a'.tmps)=Region.wanted o (yielded ops a.tmps)):YieldsS P ops S o v a':=by
 unfold YieldsS at *;rw[he,hw];exact hy
theorem zo2 {j:Nat}{oi oj:Oper}{v:Value}(hj:ops[j]?=some oj)(hap:oi.apart ops oj=true)
 (hsi:∀cs b,oi.op≠.select cs b) (hsj:∀cs b,oj.op≠.select cs b)
 (hQ:∀c a w,Q (.panic c) (a.put oi.dst v) w→Q (.panic c) a w) {K:Act→World→Prop} {a:Act} {w:World}
 (hy:YieldsS P ops S oi v a) (h:wpOp P ops Q j K (a.put oi.dst v) w) :
 wpOp P ops Q j (fun a' w'=>YieldsS P ops S oi v a'∧K (a'.put oi.dst v) w') a w:=by
 obtain⟨h1,h2,h3⟩:=Oper.apart_spec hap;have keep:∀(a:Act),YieldsS P ops S oi v a→∀u,YieldsS P ops S oi v (a.put oj.dst u):=fun a hy u=>
  hy.of_same (execOp_put oi hsi a oj.dst u h3) (wanted_put oi a oj.dst u h3)
 have keepD:∀d,YieldsS P ops S oi v { a with defers:=d :: a.defers }:=fun d=>hy.of_same rfl rfl
 unfold wpOp at *;simp only[hj]at *;rw[wanted_put oj a oi.dst v h1]at h
 split
 ·rename_i hw
  simp only[hw,if_true]at h;rcases h with h|⟨hasks,hlets⟩
  case inr=>exact .inr ⟨by unfold Oper.asks at *;rw[execOp_put oj hsj a oi.dst v h1]at hasks;exact hasks,hlets⟩
  refine .inl ?_;unfold Oper.wp at *;rw[execOp_put oj hsj a oi.dst v h1]at h;generalize (execOp a.eval oj).run P w=r at *;cases r with
  | ok n w'=>
    cases n<;>simp only[Oper.upon]at h ⊢
    case value u=>exact⟨keep a hy u,by rw[← Act.put_comm a v u h2];exact h⟩
    case skip=>exact⟨keep a hy _,by rw[← Act.put_comm a v undef h2];exact h⟩
    case defer d=>
     refine⟨keep _ (keepD d) _,?_⟩;rw[← Act.put_comm _ v undef h2,← Act.put_defers];exact h
    case enter f args=>
     refine Calls.mono h fun e w'' he=>?_
     cases e with
     | returned u=>exact⟨keep a hy u,by rw[← Act.put_comm a v u h2];exact he⟩
     | panicked c=>exact hQ _ _ _ he
     | outgrown=>exact he
    case row row args=>exact Rows.mono h fun u w'' he=>⟨keep a hy u,by rw[← Act.put_comm a v u h2];exact he⟩
  | halt x w'=>
    cases x<;>simp only[Oper.upon]at h ⊢
    case panic u=>exact hQ _ _ _ h
 ·rename_i hw
  simp only[hw]at h;exact⟨keep a hy _,by rw[← Act.put_comm a v undef h2];exact h⟩
def zco (P:Program)(md:Region.Mode)(ops:Array Oper)(Q:Exit→Act→World→Prop)(S:World→Prop)(T:Nat→Bool):Nat→Array Bool→Act→World→Prop
 | 0,listed,a,w=>Region.ready md ops listed=[]∧Q .normal a w
 | fuel+1,listed,a,w=>
   (Region.ready md ops listed=[]→Q .normal a w) ∧
   ∀i ∈ Region.ready md ops listed,wpOp P ops Q i (fun a' w'=>if T i=true then wpAny P md ops Q fuel (listed.setIfInBounds i true) a' w' else S w'∧zco P md ops Q S T fuel (listed.setIfInBounds i true) a' w') a w
theorem zec:∀(fuel:Nat) (listed:Array Bool) (a:Act) (w:World),zco P md ops Q S T fuel listed a w→wpAny P md ops Q fuel listed a w
 | 0,_,_,_,h=>h
 | fuel+1,_,_,_,h=>⟨h.1,fun i hi=>wpOp_mono (fun a' w' h'=>by
    by_cases ht:T i=true
    ·rw[if_pos ht]at h';exact h'
    ·rw[if_neg ht]at h';exact zec fuel _ a' w' h'.2) (h.2 i hi)⟩
theorem zjA {i:Nat}{oi:Oper}{v:Value}(hi:ops[i]?=some oi)(hsel:∀(j:Nat) (o:Oper) cs b,ops[j]?=some o→o.op≠.select cs b)
 (hQ:∀c a w,Q (.panic c) (a.put oi.dst v) w→Q (.panic c) a w) (hT:∀j,T j=true→Region.waitsFor md ops j i=true) :
 ∀(fuel:Nat) (listed:Array Bool) (a:Act) (w:World),
  (∀j oj,ops[j]?=some oj→j≠i→listed.getD j true=false→(∀e ∈ oj.after,Region.binds md e=true→e.on≠i)→oi.apart ops oj=true) →
  i ∈ Region.ready md ops listed→YieldsS P ops S oi v a→S w→T i=false →
  zco P md ops Q S T fuel (listed.setIfInBounds i true) (a.put oi.dst v) w→zco P md ops Q S T (fuel+1) listed a w:=by
 intro fuel
 induction fuel with
 | zero=>
   intro listed a w _ hr hy hS hTi H;refine⟨fun h=>(by rw[h]at hr;cases hr),fun j hj=>?_⟩
   by_cases hji:j=i
   ·subst hji;exact hy.wpOp hi hS (by rw[if_neg (by rw[hTi];decide)];exact⟨hS,H⟩)
   ·have:=ready_mono hj hji
    rw[H.1]at this;cases this
 | succ fuel ih=>
   intro listed a w hfree hr hy hS hTi H;refine⟨fun h=>(by rw[h]at hr;cases hr),fun j hj=>?_⟩
   by_cases hji:j=i
   ·subst hji;exact hy.wpOp hi hS (by rw[if_neg (by rw[hTi];decide)];exact⟨hS,H⟩)
   ·have h1:=H.2 j (ready_mono hj hji)
    obtain⟨hjun,oj,hoj,hall⟩:=mem_ready.1 hj;have hnot:∀e ∈ oj.after,Region.binds md e=true→e.on≠i:=fun e he hb heq=>by
     have h1:=hall e he hb;have h0:=(mem_ready.1 hr).1;rw[heq]at h1;rcases Nat.lt_or_ge i listed.size with h'|h'
     ·simp[h']at h0 h1;rw[h0]at h1;cases h1
     ·simp[Array.getElem?_eq_none h']at h1
    have hTj:¬T j=true:=fun ht=>by
     obtain⟨oj',hoj',e,he,hb,hon⟩:=Region.waitsFor_spec (hT j ht);have:oj'=oj:=Option.some.inj (hoj'.symm.trans hoj);subst this;exact hnot e he hb hon
    simp only[if_neg hTj]at h1 ⊢;have h2:=zo2 hoj (hfree j oj hoj hji hjun hnot) (fun cs b=>hsel i oi cs b hi) (fun cs b=>hsel j oj cs b hoj) hQ hy h1;have hfree':∀k ok,ops[k]?=some ok→k≠i→(listed.setIfInBounds j true).getD k true=false →
     (∀e ∈ ok.after,Region.binds md e=true→e.on≠i)→oi.apart ops ok=true:=fun k ok hk hki hun hno=>by
     refine hfree k ok hk hki ?_ hno
     by_cases hjk:j=k
     ·subst hjk;exact hjun
     ·rw[getD_set_ne true hjk]at hun;exact hun
    refine wpOp_mono (fun a' w' h3=>⟨h3.2.1,ih (listed.setIfInBounds j true) a' w' hfree' (ready_mono hr (Ne.symm hji)) h3.1 h3.2.1 hTi ?_⟩) h2;rw[Array.setIfInBounds_comm _ _ hji];exact h3.2.2
theorem zag {i:Nat}{l:List Nat}{oi:Oper}{v:Value}{fuel:Nat}{listed:Array Bool}{a:Act}{w:World}(hi:ops[i]?=some oi)
 (hs:Region.noSelect ops=true) (hf:Region.free md ops listed i=true) (hr:(Region.ready md ops listed).contains i=true)
 (hT:(l.all fun j=>Region.waitsFor md ops j i)=true) (hTi:l.contains i=false)
 (hQ:∀c a w,Q (.panic c) (a.put oi.dst v) w→Q (.panic c) a w) (hS:S w) (hy:YieldsS P ops S oi v a)
 (h:zco P md ops Q S l.contains fuel (listed.setIfInBounds i true) (a.put oi.dst v) w):zco P md ops Q S l.contains (fuel+1) listed a w:=
 zjA hi (Region.noSelect_spec hs) hQ (fun j hj=>List.all_eq_true.1 hT j (by simpa using hj)) fuel listed a w (Region.free_spec hi hf) (by simpa using hr) hy hS hTi h
theorem zfX {rs:List Nat}{fuel:Nat}{listed:Array Bool}{a:Act}{w:World}(hr:Region.ready md ops listed=rs)(hne:rs≠[])
 (h:∀i ∈ rs,wpOp P ops Q i (fun a' w'=>if T i=true then wpAny P md ops Q fuel (listed.setIfInBounds i true) a' w' else S w'∧zco P md ops Q S T fuel (listed.setIfInBounds i true) a' w') a w):zco P md ops Q S T (fuel+1) listed a w:=
 ⟨fun h0=>absurd (hr▸h0) hne,hr▸h⟩
theorem zas {i:Nat}{fuel:Nat}{listed:Array Bool}{a:Act}{w:World}(hr:Region.ready md ops listed=[i])
 (h:wpOp P ops Q i (fun a' w'=>if T i=true then wpAny P md ops Q fuel (listed.setIfInBounds i true) a' w' else S w'∧zco P md ops Q S T fuel (listed.setIfInBounds i true) a' w') a w):zco P md ops Q S T (fuel+1) listed a w:=
 zfX hr (by simp) fun j hj=>by
  obtain rfl:=List.mem_singleton.1 hj;exact h
theorem zhM {i j:Nat}{fuel:Nat}{listed:Array Bool}{a:Act}{w:World}(hr:Region.ready md ops listed=[i,j])
 (h1:wpOp P ops Q i (fun a' w'=>if T i=true then wpAny P md ops Q fuel (listed.setIfInBounds i true) a' w' else S w'∧zco P md ops Q S T fuel (listed.setIfInBounds i true) a' w') a w)
 (h2:wpOp P ops Q j (fun a' w'=>if T j=true then wpAny P md ops Q fuel (listed.setIfInBounds j true) a' w' else S w'∧zco P md ops Q S T fuel (listed.setIfInBounds j true) a' w') a w):zco P md ops Q S T (fuel+1) listed a w:=
 zfX hr (by simp) fun k hk=>by
  rcases List.mem_cons.1 hk with rfl|hk
  ·exact h1
  ·obtain rfl:=List.mem_singleton.1 hk
   exact h2
theorem zaw {i:Nat}{o:Oper}{fuel:Nat}{listed:Array Bool}{a:Act}{w:World}(ho:ops[i]?=some o)(hT:T i=false)
 (h:∀K':Act→World→Prop,(∀a' w',S w'→zco P md ops Q S T fuel (listed.setIfInBounds i true) a' w'→K' a' w')→if Region.wanted o (yielded ops a.tmps)=true then Oper.wp P o a w K' Q else K' (a.put o.dst undef) w) :
 wpOp P ops Q i (fun a' w'=>if T i=true then wpAny P md ops Q fuel (listed.setIfInBounds i true) a' w' else S w'∧zco P md ops Q S T fuel (listed.setIfInBounds i true) a' w') a w:=
 wpOp_step ho fun K' hK'=>h K' fun a' w' hs hw=>hK' a' w' (by rw[if_neg (by rw[hT];decide)];exact⟨hs,hw⟩)
theorem zgA {i:Nat}{o:Oper}{fuel:Nat}{listed:Array Bool}{a:Act}{w:World}(ho:ops[i]?=some o)(hT:T i=true)
 (h:∀K':Act→World→Prop,(∀a' w',wpAny P md ops Q fuel (listed.setIfInBounds i true) a' w'→K' a' w')→if Region.wanted o (yielded ops a.tmps)=true then Oper.wp P o a w K' Q else K' (a.put o.dst undef) w) :
 wpOp P ops Q i (fun a' w'=>if T i=true then wpAny P md ops Q fuel (listed.setIfInBounds i true) a' w' else S w'∧zco P md ops Q S T fuel (listed.setIfInBounds i true) a' w') a w:=
 wpOp_step ho fun K' hK'=>h K' fun a' w' hw=>hK' a' w' (by rw[if_pos hT];exact hw)
end
end Go
