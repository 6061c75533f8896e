/- One more struct: the program. -/
import Derived.Test.YtbbaooeioogijaaGreatDoorMg3
import Derived.StillTailTactics
namespace Go.Proofs.YtbbaooeioogijaaGreatDoor
open Go.RowKit Go.Maps
set_option maxRecDepth 100000
set_option maxHeartbeats 20000000
def MemRow (w:World)(b off:Nat)(L:List (ByteArray × ByteArray)):Prop:=∀i m,L[i]?=some m→w.cell? ⟨b,off+i*2,none⟩=some (.string m.1)∧w.cell? ⟨b,off+i*2+1,none⟩=some (.string m.2)
def IsMems (B:Nat)(w:World)(v:Value)(L:List (ByteArray × ByteArray)):Prop:=∃a cap,v=.slice a L.length cap∧(L≠[]→∃b off,a=some ⟨b,off,none⟩∧b<B∧MemRow w b off L)
theorem MemRow.below {B b off:Nat}{w w':World}{L:List (ByteArray × ByteArray)}(h:MemRow w b off L)(hb:Below B w w')(hB:b<B):MemRow w' b off L:=fun i m hi=>by
 rw[hb.cell hB,hb.cell hB];exact h i m hi
theorem IsMems.below {B B':Nat}{w w':World}{v:Value}{L:List (ByteArray × ByteArray)}(h:IsMems B w v L)(hb:Below B' w w')(hB:B≤B'):IsMems B w' v L:=by
 obtain⟨a,cap,rfl,hr⟩:=h;refine⟨a,cap,rfl,fun hn=>?_⟩;obtain⟨b,off,rfl,hlt,hm⟩:=hr hn;exact⟨b,off,rfl,hlt,hm.below hb (by omega)⟩
def zrD (B b mb:Nat)(mv:List Value)(ms:Value)(K:List Kn)(x:Sr)(w:World)(e:Ending)(w':World):Prop:=
 Below B w w'∧((∃c,addK K x=.inl c∧e=.returned (.int .i64 c))∨∃k lv sv av,addK K x=.inr k∧e=.returned (.int .i64 0)∧KnAt B w' b mb lv sv av (mv++[ms]) (K++[k]))
section
variable {B b mb:Nat} {lv sv av:Value} {mv:List Value} {K:List Kn}
theorem zfm {ms:Value}{x:Sr}{w w':World}{c:Int}(h:addK K x=.inl c)(hb:Below B w w'):zrD B b mb mv ms K x w (.returned (.int .i64 c)) w':=⟨hb,.inl ⟨c,h,rfl⟩⟩
theorem zk1 {x:Sr}(h:isNameB x.name=false):addK K x=.inl 2:=by unfold addK;rw[if_pos h]
theorem ziJ {x:Sr}(h:isNameB x.name=true)(h2:(za3 K x.name.data.toList).isSome=true):addK K x=.inl 6:=by unfold addK;rw[if_neg (by simp[h]),if_pos h2]
theorem zk0 {x:Sr}(h:isNameB x.name=true)(h2:(za3 K x.name.data.toList).isSome=false)(h3:64<x.mems.length):addK K x=.inl 3:=by unfold addK;rw[if_neg (by simp[h]),if_neg (by simp[h2]),if_pos h3]
theorem zkY {x:Sr}(h:isNameB x.name=true)(h2:(za3 K x.name.data.toList).isSome=false)(h3:x.mems=[]):addK K x=.inl 5:=by unfold addK;rw[if_neg (by simp[h]),if_neg (by simp[h2]),if_neg (by simp[h3]),if_pos h3]
theorem zkZ {x:Sr}(h:isNameB x.name=true)(h2:(za3 K x.name.data.toList).isSome=false)(h3:¬64<x.mems.length)(h4:¬x.mems=[]){r:Int ⊕ (Nat × Nat)}(hr:zbo K x.mems [] 0 1=r) :
 (∀e,r=.inl e→addK K x=.inl e)∧∀n m,r=.inr (n,m)→addK K x=if 65536<fitN n m then .inl 3 else .inr { x with size:=fitN n m,align:=m }:=by
 unfold addK;rw[if_neg (by simp[h]),if_neg (by simp[h2]),if_neg h3,if_neg h4,hr];constructor
 ·rintro e rfl;rfl
 ·rintro n m rfl;rfl
theorem zmY {m:ByteArray × ByteArray}{l:List (ByteArray × ByteArray)}{seen:List ByteArray}{n a:Nat}(h:isNameB m.1=false):zbo K (m :: l) seen n a=.inl 2:=by rw[zbo,if_pos h]
theorem zkj {m:ByteArray × ByteArray}{l:List (ByteArray × ByteArray)}{seen:List ByteArray}{n a:Nat}(h:isNameB m.1=true)(h2:Lib.containsS seen m.1=true):zbo K (m :: l) seen n a=.inl 6:=by
 rw[zbo,if_neg (by simp[h]),if_pos h2]
theorem zkk {m:ByteArray × ByteArray}{l:List (ByteArray × ByteArray)}{seen:List ByteArray}{n a:Nat}(h:isNameB m.1=true)(h2:Lib.containsS seen m.1=false)(h3:checkS K m.2≠0):zbo K (m :: l) seen n a=.inl (checkS K m.2):=by
 rw[zbo,if_neg (by simp[h]),if_neg (by simp[h2])];cases ht:tyS m.2 with
 | none=>rw[zb1 ht]
 | some t=>rw[zb0 ht]at h3 ⊢;simp only;rw[if_pos h3]
theorem zih {m:ByteArray × ByteArray}{l:List (ByteArray × ByteArray)}{seen:List ByteArray}{n a:Nat}{t:Ty}(h:isNameB m.1=true)(h2:Lib.containsS seen m.1=false)(ht:tyS m.2=some t)(h3:checkS K m.2=0)(h4:objectT t=false):zbo K (m :: l) seen n a=.inl 5:=by
 rw[zbo,if_neg (by simp[h]),if_neg (by simp[h2]),ht];rw[zb0 ht]at h3;simp only;rw[if_neg (by simp[h3]),if_pos h4]
theorem zmX {m:ByteArray × ByteArray}{l:List (ByteArray × ByteArray)}{seen:List ByteArray}{n a:Nat}{t:Ty}(h:isNameB m.1=true)(h2:Lib.containsS seen m.1=false)(ht:tyS m.2=some t)(h3:checkS K m.2=0)(h4:objectT t=true) :
 zbo K (m :: l) seen n a=zbo K l (seen++[m.1]) (fitN n (measT K t).2+(measT K t).1) (max a (measT K t).2):=by
 rw[zbo,if_neg (by simp[h]),if_neg (by simp[h2]),ht];rw[zb0 ht]at h3;simp only;rw[if_neg (by simp[h3]),if_neg (by simp[h4])]
structure AddInv (w1:World)(sm:Nat)(K:List Kn)(L:List (ByteArray × ByteArray))(wy:World)(j n a:Nat):Prop where
 rest:zbo K L [] 0 1=zbo K (L.drop j) ((L.take j).map Prod.fst) n a
 nb:n≤j*65540
 ab:1≤a∧a≤4
 seen:MapF wy sm j (zgN ((L.take j).map Prod.fst))
 below:Below w1.heap.size w1 wy
theorem zk2 {w1:World}{L:List (ByteArray × ByteArray)}:AddInv w1 w1.heap.size K L (w1.alloc (.map #[] 0)) 0 0 1:=
 ⟨rfl,by decide,⟨by decide,by decide⟩,zsY.same fun s=>(zsc s).symm,(zv3 _ _).alloc (zv0 _) _⟩
theorem zjj {α:Type}(L:List α)(j:Nat)(h:j<L.length):L.drop j=L[j] :: L.drop (j+1):=List.drop_eq_getElem_cons h
theorem ziO {α:Type}(L:List α)(j:Nat)(h:j<L.length):L.take (j+1)=L.take j++[L[j]]:=by rw[List.take_add_one,zv1 h];rfl
theorem zie {s:ByteArray}(h:isNameB s=true):s.size≤maxLen:=by
 unfold isNameB at h;simp only[Bool.and_eq_true,decide_eq_true_iff]at h;have:=h.2.1;unfold maxLen;omega
theorem zpz {w3:World}{sm j:Nat}{seen:List ByteArray}{mn:ByteArray}(h:MapF w3 sm j (zgN seen))(hj:j<64)(hs:mn.size≤maxLen) :
 ∃w4,(Instr.mapUpdate 111 (.map (some sm)) (.string mn) (.int .i64 1)).run Tryz.prog w3=.ok () w4∧MapF w4 sm (j+1) (zgN (seen++[mn]))∧w3.mapTurned w4 sm:=by
 obtain⟨w4,h1,h2,h3⟩:=h.store (by unfold maxLen;omega) hs (v:=1) (by decide);exact⟨w4,h1,h2.same fun s=>zpy seen mn s,h3⟩
theorem AddInv.next {w1 w3 w4 w6 wr:World}{sm j n a n' a':Nat}{L:List (ByteArray × ByteArray)}{m:ByteArray × ByteArray}(h:AddInv w1 sm K L wr j n a)(hsm:w1.heap.size=sm)(h13:Below wr.heap.size wr w3)(ht:w3.mapTurned w4 sm)
 (hm:MapF w4 sm (j+1) (zgN ((L.take j).map Prod.fst++[m.1]))) (h46:Below w4.heap.size w4 w6) (hL:L.take (j+1)=L.take j++[m]) (hr:zbo K L [] 0 1=zbo K (L.drop (j+1)) ((L.take j).map Prod.fst++[m.1]) n' a') (hn:n'≤n+65540) (ha:1≤a'∧a'≤4) :
 AddInv w1 sm K L w6 (j+1) n' a':=by
 have e:(L.take (j+1)).map Prod.fst=(L.take j).map Prod.fst++[m.1]:=by rw[hL];simp
 refine⟨by rw[e];exact hr,by have:=h.nb;omega,ha,by rw[e];exact hm.below h46,?_⟩;have h1:Below w1.heap.size w1 w3:=h.below.trans (h13.mono h.below.size);have h2:Below w1.heap.size w1 w4:=zeb h1 (zv0 _) (by omega) ht;exact h2.trans (h46.mono h2.size)
theorem zsR (a b:Nat):Value.int .i64 (max (a:Int) (b:Int))=.int .i64 ((max a b:Nat):Int):=by congr 1;omega
theorem zam {w:World}{base:Nat}{e:TypeId}{size:Nat}{v:Value}{n:Nat}{xs:List Value}(h:w.ownsRow base e size v n xs):∃a cap,v=.slice a n cap:=by
 rcases h.2 with ⟨rfl,rfl⟩|⟨g,cap,cur,rfl,_⟩
 ·exact⟨_,_,rfl⟩
 ·exact⟨_,_,rfl⟩
theorem zvz {n:Nat}(h:n<64):(Lit.int .i64 (n:Int)).wf=true:=by
 have h1:IntKind.i64.min=-9223372036854775808:=by decide
 have h2:IntKind.i64.max=9223372036854775807:=by decide
 rw[Lit.wf,h1,h2,Bool.and_eq_true,decide_eq_true_iff,decide_eq_true_iff];omega
theorem zl2:(Tryz.prog.info? 61).map (fun i=>(i.zero,i.size,i.bytes))=some (some (.agg #[.string ⟨#[]⟩,.slice none 0 0]),2,40):=by kernel_rfl
theorem zs5:(Tryz.prog.info? 3).map (fun i=>(i.zero,i.size,i.bytes))=some (some (.int .i64 0),1,8):=by kernel_rfl
theorem zfa {v:Value}{g H n c k:Nat}(h:v.ownBlock=some g∨g=H)(hk:(Value.slice (some ⟨g,0,none⟩) n c).ownBlock=some k):v.ownBlock=some k∨k=H:=by
 simp only[Value.ownBlock,Option.some.injEq]at hk;subst hk;exact h
theorem zu3 {lv sv av:Value}{ms:Value}{x:Sr}{w w':World}{k:Kn}(h:addK K x=.inr k)(hb:Below B w w')
 (hk:KnR B w' b mb lv sv av lv sv av (K.length+1) (zcv (K++[k])) (K.length+1) (((K.zip mv).flatMap fun q=>[.string q.1.name,q.2])++[.string k.name,ms]) (K.length+1) ((K.map fun k=>.int .i64 (k.size:Int))++[.int .i64 (k.size:Int)]) (K.length+1) ((K.map fun k=>.int .i64 (k.align:Int))++[.int .i64 (k.align:Int)]))
 (hm:mv.length=K.length):zrD B b mb mv ms K x w (.returned (.int .i64 0)) w':=by
 refine⟨hb,.inr ⟨k,lv,sv,av,h,rfl,KnR.toAt ?_ (by simp[hm])⟩⟩;have e1:(K++[k]).length=K.length+1:=by simp
 have e2:((K++[k]).zip (mv++[ms]))=K.zip mv++[(k,ms)]:=by rw[List.zip_append hm.symm];rfl
 rw[e1,e2,List.map_append,List.map_append,List.flatMap_append];exact hk
theorem zro {w0 w1:World}{k n:Nat}{o:Obj}(h:w0.heap[k]?=some o)(hb:Below (w0.drewN n).heap.size (w0.drewN n) w1):w1.heap[k]?=some o:=by
 rw[hb.block k (zaa h)];exact h
theorem zvU (x:Sr)(ms:Value)(w:World)(hE:TE w)(hK:KnAt B w b mb lv sv av mv K)(hF:FitK K)(h64:K.length<64)(hx:x.name.size≤maxLen)(hm:IsMems w.heap.size w ms x.mems) :
 Calls Tryz.prog 107 #[.pointer (some ⟨b,0,none⟩),.agg #[.string x.name,ms]] w fun e w'=>zrD B b mb mv ms K x w e w':=by
 have hB:B≤w.heap.size:=zv7 (Nat.lt_of_le_of_lt hK.base.1 (zaa hK.blk));obtain⟨al,cl,rfl⟩:=zam hK.list;have HE:=Hd hE;have HK:=Hd hK;have HF:=Hd hF;obtain⟨a,cap,rfl,hrow⟩:=hm;have HM:=Hd hrow;have HN:=Hd fun w1 (h:Below w.heap.size w w1)=>zaZ x.name w1 ((HE.out.below h).keys)
 have hw0:Below w.heap.size w (w.alloc (.cells #[.string x.name,.slice a x.mems.length cap] 61)):=(zv3 _ _).alloc (zv0 _) _;have hK0:=hK.below hw0;have hx0:(w.alloc (.cells #[.string x.name,.slice a x.mems.length cap] 61)).heap[w.heap.size]?=some (.cells #[.string x.name,.slice a x.mems.length cap] 61 (0,0)):=zv8 _ _;obtain⟨⟨x0,x1⟩,fx⟩:=zab hx0;obtain⟨_,c1,_,_⟩:=hK0.cells;have hlk:∀m,(Instr.lookup 111 (.map (some mb)) (.string x.name) true).run Tryz.prog ((w.alloc (.cells #[.string x.name,.slice a x.mems.length cap] 61)).drewN m)=.ok (.tuple #[.int .i64 (zcv K x.name.data.toList).1,.bool (zcv K x.name.data.toList).2]) ((w.alloc (.cells #[.string x.name,.slice a x.mems.length cap] 61)).drewN m):=fun m=>(hK0.names.drewN m).look hx
 have hmx:(w.alloc (.cells #[.string x.name,.slice a x.mems.length cap] 61)).heap.size=w.heap.size+1:=by simp
 have HX0:=Hd hx0;have HMX:=Hd hmx;have hl2:=zqj K x.name.data.toList;clear hE hK hF hrow hK0 fx hx0 hmx;have hmm:=@run_makeMap Tryz.prog
 go_enter Tryz.func107,Tryz.ntmps107
 go_wp2_with fail
 generalize w.alloc (.cells #[.string x.name,.slice a x.mems.length cap] 61)=w0 at *;have HB0:=Hd hw0;clear hw0;rcases hlv:zcv K x.name.data.toList with ⟨li,lf⟩;rw[hlv]at hlk hl2;have HL2:=Hd hl2;clear hlv hl2
 go_quiet (fail)
 rcases hnm:isNameB x.name with _|_
 ·rw[hnm]at HN
  have HN1:=Hd (HN.out _ (zaf HB0.out nq))
  go_wp2_with (go_at_call 80;(with_reducible refine HN1.out.mono ?_);rintro e w1 ⟨rfl,hb1⟩)
  go_wp2_with fail
  go_ret;exact zfm (zk1 hnm) (((zaf HB0.out _).mono hB).trans (hb1.mono (by have:=HMX.out;simp;omega)))
 rw[hnm]at HN;cases lf with
 | true=>
   have HN1:=Hd (HN.out _ (zaf HB0.out nq))
   go_wp2_with (go_at_call 80;(with_reducible refine HN1.out.mono ?_);rintro e w1 ⟨rfl,hb1⟩)
   go_wp2_with fail
   go_ret;exact zfm (ziJ hnm HL2.out.symm) (((zaf HB0.out _).mono hB).trans (hb1.mono (by have:=HMX.out;simp;omega)))
 | false=>
 have HN1:=Hd (HN.out _ (zaf HB0.out nq));have hbw:∀w1,Below (w0.drewN nq).heap.size (w0.drewN nq) w1→Below w.heap.size w w1:=fun w1 h=>(zaf HB0.out nq).trans (h.mono (by have:=HMX.out;simp;omega))
 have HBW:=Hd hbw;clear hbw
 by_cases h64':64<x.mems.length
 ·have hfin:=Hd (zk0 (K:=K) hnm HL2.out.symm h64')
  have t1:(64:Int)<x.mems.length:=by omega
  clear h64' hnm
  go_wp2_with (go_at_call 80;(with_reducible refine HN1.out.mono ?_);rintro e w1 ⟨rfl,hb1⟩;have hx1:=zro HX0.out hb1;obtain⟨⟨y0,y1⟩,_⟩:=zab hx1;have HX1:=Hd hx1;have hz1:=zaa hx1;have HBb:=Hd hb1;clear hx1 hb1)
  go_ret;exact zfm hfin.out ((HBW.out _ HBb.out).mono hB)
 have t1:(x.mems.length:Int)≤64:=by omega
 by_cases h0':x.mems.length=0
 ·have hfin:=Hd (zkY (K:=K) hnm HL2.out.symm (List.eq_nil_of_length_eq_zero h0'))
  have t2:((x.mems.length:Int) == 0)=true:=by rw[beq_iff_eq];omega
  clear h64' hnm h0'
  go_wp2_with (go_at_call 80;(with_reducible refine HN1.out.mono ?_);rintro e w1 ⟨rfl,hb1⟩;have hx1:=zro HX0.out hb1;obtain⟨⟨y0,y1⟩,_⟩:=zab hx1;have HX1:=Hd hx1;have hz1:=zaa hx1;have HBb:=Hd hb1;clear hx1 hb1)
  go_ret;exact zfm hfin.out ((HBW.out _ HBb.out).mono hB)
 have t2:((x.mems.length:Int) == 0)=false:=by rw[zwa];omega
 have HAM:=Hd fun r (hr:zbo K x.mems [] 0 1=r)=>zkZ (K:=K) hnm HL2.out.symm h64' (fun e=>h0' (by rw[e];rfl)) hr
 obtain⟨bb,off,ha,hbl,hrow⟩:=HM.out (fun e=>h0' (by rw[e];rfl));subst ha;have HR:=Hd hrow;clear h64' hnm h0' hrow
 go_wp2_with (go_at_call 80;(with_reducible refine HN1.out.mono ?_);rintro e w1 ⟨rfl,hb1⟩;have hx1:=zro HX0.out hb1;obtain⟨⟨y0,y1⟩,_⟩:=zab hx1;have HX1:=Hd hx1;have hz1:=zaa hx1;have HBb:=Hd hb1;clear hx1 hb1)
 generalize hsm:w1.heap.size=sm
 go_loopg [8,9,46] x.mems.length (fun g v8 v9 v46 wy=>∃j n m:Nat,j≤x.mems.length∧j+g=x.mems.length∧v8=.int .i64 (n:Int)∧v9=.int .i64 (m:Int)∧v46=.int .i64 (j:Int)∧Hid (AddInv w1 sm K x.mems wy j n m))
 case atStart=>exact⟨0,0,1,by omega,by omega,rfl,rfl,rfl,by subst hsm;exact zk2⟩
 case round=>
  obtain⟨j,n,m,hj,hjg,rfl,rfl,rfl,HI⟩:=hrel;have hbr:Below w.heap.size w wr:=(HBW.out _ HBb.out).trans (HI.out.below.mono (zv7 hz1));have HBr:=Hd hbr;have hzr:sm≤wr.heap.size:=by rw[← hsm];exact HI.out.below.size
  by_cases hlt:j<x.mems.length
  ·obtain⟨e1,e2⟩:=HR.out j _ (zv1 hlt)
   rw[← hbr.cell hbl]at e1 e2;have hrest:=HI.out.rest;rw[zjj _ j hlt]at hrest;have hnext:=ziO x.mems j hlt;generalize x.mems[j]'hlt=mj at *;obtain⟨mn,mt⟩:=mj;simp only at e1 e2;have HRest:=Hd hrest;have HNext:=Hd hnext;have HNm:=Hd fun w3 (h:Below w.heap.size w w3)=>zaZ mn w3 ((HE.out.below h).keys)
   clear hbr hrest hnext
   go_upto_region 15 with fail
   have hm2:(wr.alloc (.cells #[.string mn,.string mt] 82)).heap[wr.heap.size]?=some (.cells #[.string mn,.string mt] 82 (0,0)):=zv8 _ _;have hb2:Below wr.heap.size wr (wr.alloc (.cells #[.string mn,.string mt] 82)):=(zv3 _ _).alloc (zv0 _) _;generalize wr.alloc (.cells #[.string mn,.string mt] 82)=w2 at *;have HM2:=Hd hm2;have HB2:=Hd hb2;have hz2:=zaa hm2;obtain⟨⟨m0,m1⟩,_⟩:=zab hm2;have HN2:=Hd (HNm.out _ (HBr.out.trans (hb2.mono HBr.out.size)));clear hm2 hb2 e1 e2;rcases hnm:isNameB mn with _|_
   ·rw[hnm]at HN2
    have hfin:=Hd ((HAM.out _ HRest.out).1 _ (zmY hnm));clear hnm
    go_wp2_with (go_at_call 80;(with_reducible refine HN2.out.mono ?_);rintro e w3 ⟨rfl,hb3⟩;have HB3:=Hd hb3;clear hb3)
    go_ret;exact zfm hfin.out ((((HBr.out.trans (HB2.out.mono HBr.out.size)).mono hB)).trans (HB3.out.mono (by omega)))
   have hs31:=zie hnm;have hj64:j<64:=by omega
   rw[hnm]at HN2;rcases hse:Lib.containsS ((x.mems.take j).map Prod.fst) mn with _|_
   ·have hlook:=fun w3 (h:Below wr.heap.size wr w3)=>by
     have:=(HI.out.seen.below h).look hs31;rw[zpA,hse,if_neg (by decide)]at this;exact this
    have hmore:=fun w3 (h:Below wr.heap.size wr w3)=>zpz (HI.out.seen.below h) hj64 hs31
    have hsmr:sm<wr.heap.size:=MapF.lt HI.out.seen;have HLook:=Hd hlook;have HMore:=Hd hmore;clear hlook hmore
    go_wp2_with (go_at_call 80;(with_reducible refine HN2.out.mono ?_);rintro e w3 ⟨rfl,hb3⟩;have hm3:=(hb3.block _ hz2).trans HM2.out;obtain⟨⟨z0,z1⟩,_⟩:=zab hm3;have h13:=HB2.out.trans (hb3.mono HB2.out.size);have hl3:=HLook.out w3 h13;obtain⟨w4,hup,hm4,ht4⟩:=HMore.out w3 h13;have hx4:=(ht4.grown.block _ (zaa hm3) (by simp only[ne_eq,Option.some.injEq];omega)).trans hm3;obtain⟨⟨q0,q1⟩,_⟩:=zab hx4;have H13:=Hd h13;have HM4:=Hd hm4;have HT4:=Hd ht4;have HX4:=Hd hx4;clear hb3 hm3 h13 hm4 ht4 hx4)
    have HB4:=Hd (zeb (HBr.out.trans (H13.out.mono HBr.out.size)) (zv0 _) (by omega) HT4.out);have HC4:=Hd (zjm mt w4 (HE.out.below HB4.out) (HK.out.below HB4.out) HF.out);clear hup hl3 z0 z1
    by_cases hc:checkS K mt=0
    ·obtain⟨t,ht⟩:∃t,tyS mt=some t:=by
      cases ht:tyS mt with
      | none=>rw[zb1 ht]at hc;simp at hc
      | some t=>exact⟨t,rfl⟩
     obtain⟨hmt,hrt,hlt'⟩:=zaW.1 ht;have HO:=Hd fun w5=>zpZ t hrt w5
     rw[← hmt]at HO;rcases hob:objectT t with _|_
     ·rw[hob]at HO
      have hfin:=Hd ((HAM.out _ HRest.out).1 _ (zih hnm hse ht hc hob));rw[hc]at HC4;clear hnm hse hmt hrt hlt' ht hc hob
      go_wp2_with (go_at_call 111;(with_reducible refine HC4.out.mono ?_);rintro e w5 ⟨rfl,hb5⟩;have hx5:=(hb5.block _ (zaa HX4.out)).trans HX4.out;obtain⟨⟨p0,p1⟩,_⟩:=zab hx5;have HX5:=Hd hx5;have HB5:=Hd hb5;clear hb5 hx5)
      go_wp2_with (go_at_call 125;(with_reducible refine(HO.out _).mono ?_);rintro e w6 ⟨rfl,rfl⟩)
      go_ret;exact zfm hfin.out ((HB4.out.mono hB).trans (HB5.out.mono (zv6 hB HB4.out.size)))
     ·rw[hob]at HO
      have hct:=hc;rw[zb0 ht]at hct;obtain⟨hsh,hth,_⟩:=zhv hct;have HMs:=Hd fun w5 (h:Below w4.heap.size w4 w5)=>zfH (B:=B) (b:=b) (mb:=mb) (lv:=.slice al K.length cl) (sv:=sv) (av:=av) (mv:=mv) t w5 hrt hlt' hsh hth ((HE.out.below HB4.out).below h) ((HK.out.below HB4.out).below h) HF.out
      have hms:=zus HF.out t hct;have hal:=zlR HF.out t;rw[zuW hms,← hmt]at HMs;have HMN:=Hd (zmX (K:=K) (m:=(mn,mt)) (l:=x.mems.drop (j+1)) (n:=n) (a:=m) hnm hse ht hc hob);rw[hc]at HC4;generalize measT K t=p at *;obtain⟨ps,pa⟩:=p;simp only at hms hal HMN;unfold zkn at HMs;simp only at HMs;have hnb:=HI.out.nb;have hnn:n≤8388608:=by omega
      have HFt:=Hd fun w5=>ztS n pa hnn hal.1 hal.2 w5
      have hfb:=zkO n pa hal.1 hal.2;generalize fitN n pa=q at *;clear hnm hse hmt hrt hlt' ht hc hob hct hsh hth
      go_wp2_with (go_at_call 111;(with_reducible refine HC4.out.mono ?_);rintro e w5 ⟨rfl,hb5⟩;have hx5:=(hb5.block _ (zaa HX4.out)).trans HX4.out;obtain⟨⟨p0,p1⟩,_⟩:=zab hx5;have HX5:=Hd hx5;have HB5:=Hd hb5;have HM5:=Hd (HMs.out _ hb5);clear hb5 hx5)
      go_wp2_with (go_at_call 125;(with_reducible refine(HO.out _).mono ?_);rintro e w6 ⟨rfl,rfl⟩)
      go_wp2_with (go_at_call 126;(with_reducible refine HM5.out.mono ?_);rintro e w6 ⟨rfl,hb6⟩;have HB6:=Hd hb6;clear hb6)
      go_wp2_with (go_at_call 127;(with_reducible refine(HFt.out _).mono ?_);rintro e w7 ⟨rfl,rfl⟩)
      go_roundg (x.mems.length-(j+1))
      case measure=>omega
      case rel=>exact⟨j+1,q+ps,max m pa,by omega,by omega,by rw[zv9],by rw[zsR],by rw[zv9];rfl,HI.out.next hsm H13.out HT4.out HM4.out (HB5.out.trans (HB6.out.mono HB5.out.size)) HNext.out (HRest.out.trans HMN.out) (by omega) (by have:=HI.out.ab;omega)⟩
    ·have hfin:=Hd ((HAM.out _ HRest.out).1 _ (zkk hnm hse hc))
     have t3:(checkS K mt != 0)=true:=by simp[hc]
     clear hnm hse hc;generalize checkS K mt=c at *
     go_wp2_with (go_at_call 111;(with_reducible refine HC4.out.mono ?_);rintro e w5 ⟨rfl,hb5⟩;have HB5:=Hd hb5;clear hb5)
     go_ret;exact zfm hfin.out ((HB4.out.mono hB).trans (HB5.out.mono (zv6 hB HB4.out.size)))
   ·have hlook:=fun w3 (h:Below wr.heap.size wr w3)=>by
     have:=(HI.out.seen.below h).look hs31;rw[zpA,hse,if_pos rfl]at this;exact this
    have HLook:=Hd hlook;have hfin:=Hd ((HAM.out _ HRest.out).1 _ (zkj hnm hse));clear hnm hse hlook
    go_wp2_with (go_at_call 80;(with_reducible refine HN2.out.mono ?_);rintro e w3 ⟨rfl,hb3⟩;have hm3:=(hb3.block _ hz2).trans HM2.out;obtain⟨⟨z0,z1⟩,_⟩:=zab hm3;have hl3:=HLook.out w3 (HB2.out.trans (hb3.mono HB2.out.size));have HB3:=Hd hb3;clear hb3 hm3)
    go_ret;exact zfm hfin.out ((((HBr.out.trans (HB2.out.mono HBr.out.size)).mono hB)).trans (HB3.out.mono (by omega)))
  ·-- END
   obtain rfl:j=x.mems.length:=by omega
   have t3:(x.mems.length:Int)≤(x.mems.length:Int):=Int.le_refl _;have hrest:=HI.out.rest;rw[List.drop_length,zbo]at hrest;have hend:=(HAM.out _ hrest).2 n m rfl;have hnb:=HI.out.nb;have hab:=HI.out.ab;have hnn:n≤8388608:=by omega
   have HFt:=Hd fun w5=>ztS n m hnn hab.1 hab.2 w5
   have hfb:=zkO n m hab.1 hab.2;generalize fitN n m=q at *;have hxr:wr.heap[w.heap.size]?=some (.cells #[.string x.name,.slice (some ⟨bb,off,none⟩) x.mems.length cap] 61 (0,0)):=(HI.out.below.block _ hz1).trans HX1.out;have HXr:=Hd hxr;have hzr1:w.heap.size<wr.heap.size:=zaa hxr;have HKr:=Hd ((HK.out.below hbr).toR);clear hbr hxr hrest
   by_cases hq:65536<q
   ·have hfin:=Hd (hend.trans (if_pos hq))
    have t4:(65536:Int)<q:=by omega
    clear hend hq
    go_wp2_with (go_at_call 127;(with_reducible refine(HFt.out _).mono ?_);rintro e w7 ⟨rfl,hw7⟩;subst w7)
    go_ret;exact zfm hfin.out (HBr.out.mono hB)
   ·have hfin:=Hd (hend.trans (if_neg hq))
    have t4:(q:Int)≤65536:=by omega
    clear hend hq
    go_upto_region 31 with (go_at_call 127;(with_reducible refine(HFt.out _).mono ?_);rintro e w7 ⟨rfl,hw7⟩;subst w7)
    have hk9:=HKr.out.below ((zv3 _ wr).drew);have hno:(za3 K x.name.data.toList).isSome=false:=HL2.out.symm;obtain⟨w10,hup,hm10,ht10⟩:=hk9.names.store (by unfold maxLen;omega) hx (v:=(K.length:Int)) (zvz h64);have HM10:=Hd hm10;have HT10:=Hd ht10;obtain⟨⟨k0,k1,_,_⟩,_⟩:=hk9.cells;obtain⟨⟨y0,y1⟩,_⟩:=zab HXr.out;clear hm10 ht10 hk9
    go_still_tail 11,(by kernel_rfl)
    change wpList _ _ _ _ _ wr.drew;have hk10:=(HKr.out.below ((zv3 _ wr).drew)).turned HT10.out (HM10.out.same fun s=>(zos K (⟨x,q,m⟩:Kn) hno s).symm);have HB10:=Hd (zeb ((HBr.out.mono hB).drew) hB HK.out.base.2.1 HT10.out);have hx10:=(HT10.out.grown.block _ (by simpa using hzr1) (by have:=HK.out.toR.mlt;simp only[ne_eq,Option.some.injEq];omega)).trans HXr.out;clear y0 y1 k0 k1;have HK10:=Hd hk10
    go_upto_region 32 with fail
    clear hup
    go_cut [] (fun wx=>∃lv',Hid (KnR B wx b mb lv' sv av lv' sv av (K.length+1) (zcv (K++[⟨x,q,m⟩])) (K.length+1) (((K.zip mv).flatMap fun q=>[.string q.1.name,q.2])++[.string x.name,.slice (some ⟨bb,off,none⟩) x.mems.length cap]) K.length (K.map fun k=>.int .i64 (k.size:Int)) K.length (K.map fun k=>.int .i64 (k.align:Int)))∧Hid (Below B w wx))
    case first=>
     obtain⟨⟨k0,k1,k2,k3⟩,_⟩:=HK10.out.cells;obtain⟨⟨y0,y1⟩,_⟩:=zab hx10;have hz10:=zaa hx10;have hbz:=HK10.out.lt;have hB10:=HB10.out.size;have hbig:Below w10.heap.size w10 ((w10.alloc (.cells #[.string x.name,.slice (some ⟨bb,off,none⟩) x.mems.length cap] 61)).drew):=((zv3 _ _).alloc (zv0 _) _).drew;have HBig:=Hd hbig;obtain⟨i0,hi,hz0,hz1',hz2'⟩:=info_parts zl2;have HIn:=Hd (And.intro hi (And.intro hz0 (And.intro hz1' hz2')));clear hi hz0 hz1' hz2' hbig hx10 hk10
     go_region_law ((refine step_append_lies _ (by rfl) _ _ _ (by rfl) B 61 i0 _ 2 40 Tryz.underlying22 HIn.out.1 HIn.out.2.1 HIn.out.2.2.1 HIn.out.2.2.2 rfl (by omega) (.slice al K.length cl) K.length ((K.zip mv).flatMap fun q=>[.string q.1.name,q.2]) (by rfl) (HK10.out.list.belowed HBig.out) ⟨w10.heap.size,0,none⟩ 1 1 [.string x.name,.slice (some ⟨bb,off,none⟩) x.mems.length cap] (by rfl) (by rfl) (World.news_of_block (cs:=#[.string x.name,.slice (some ⟨bb,off,none⟩) x.mems.length cap]) (t:=61) (fr:=(0,0)) (zv8 w10 _)) (by simp[Value.oneCell']) (by omega) (by unfold maxLen;omega) (by omega) (by simp;omega) (w10.heap.size+1) (by simp) ?_;intro gg cp w11 hown hgrow hat hlt11;have hk11:=(HK10.out.below HBig.out).grewL hgrow hown (fun k hk=>(zfa hat hk).imp id (fun e=>e.trans (by simp)));have j0:=hk11.cells.1.1;have jf:=hk11.cells.2 0))
     all_goals
      have HK11:=Hd (hk11.put 0 (Value.slice (some ⟨gg,0,none⟩) (K.length+1) cp) rfl);have HB11:=Hd ((((HB10.out.trans (HBig.out.mono (by have:=HK10.out.base.1;omega))).grown hgrow (by have:=HBig.out.size;omega) (fun k hk=>(HK10.out.list.lt k hk).1))).setCell (p:=⟨b,0,none⟩) HK10.out.base.1 (Value.slice (some ⟨gg,0,none⟩) (K.length+1) cp));clear hk11 hown hgrow hat hlt11 j0 jf
      go_wp2_with fail
      go_meet
      exact⟨_,HK11,HB11⟩
    case rest=>
     obtain⟨lv',HK12,HB12⟩:=hcut
     go_upto_region 33 with fail
     refine wp_region_any (by kernel_rfl) ?_;change wpAny _ _ _ _ _ _ _ (World.drew _);have hk13:=HK12.out.below ((zv3 _ wc).drew);have hb13:=HB12.out.drew;generalize wc.drew=w13 at *;obtain⟨⟨_,_,k2,k3⟩,_⟩:=hk13.cells;have HSV:=Hd fun k (hk:sv.ownBlock=some k)=>(hk13.sizes.lt k hk).2
     have hle13:w13.heap.size≤w13.heap.size:=zv0 _;have hBle:B≤w13.heap.size:=zv6 hk13.base.1 (zv7 hk13.lt);obtain⟨i1,hi,hz0,hz1',hz2'⟩:=info_parts zs5;have HIi:=Hd (And.intro hi (And.intro hz0 (And.intro hz1' hz2')));clear hi hz0 hz1' hz2';have hmvl:=HK.out.mems;have HK13:=Hd hk13;have HB13:=Hd hb13;clear hk13 hb13;refine wpAny_take (i:=0) (v:=.pointer (some ⟨b,0,none⟩)) rfl (by kernel_rfl) (by kernel_rfl) (by kernel_rfl) (fun _ _ _ h=>h) (Or.inl ⟨by rfl,fun w=>by go_simp⟩) ?_;refine wpAny_take (i:=1) (v:=.pointer (some ⟨b,0,none⟩)) rfl (by kernel_rfl) (by kernel_rfl) (by kernel_rfl) (fun _ _ _ h=>h) (Or.inl ⟨by rfl,fun w=>by go_simp⟩) ?_;refine wpAny_take (i:=2) (v:=.pointer (some ⟨b,0,none⟩)) rfl (by kernel_rfl) (by kernel_rfl) (by kernel_rfl) (fun _ _ _ h=>h) (Or.inl ⟨by rfl,fun w=>by go_simp⟩) ?_;refine wpAny_take (i:=3) (v:=.pointer (some ⟨b,0,none⟩)) rfl (by kernel_rfl) (by kernel_rfl) (by kernel_rfl) (fun _ _ _ h=>h) (Or.inl ⟨by rfl,fun w=>by go_simp⟩) ?_;refine wpAny_take (i:=4) (v:=.pointer (some ⟨b,2,none⟩)) rfl (by kernel_rfl) (by kernel_rfl) (by kernel_rfl) (fun _ _ _ h=>h) (Or.inl ⟨by rfl,fun w=>by go_simp⟩) ?_;refine wpAny_take (i:=6) (v:=.int .i64 (n:Int)) rfl (by kernel_rfl) (by kernel_rfl) (by kernel_rfl) (fun _ _ _ h=>h) (Or.inl ⟨by rfl,fun w=>by go_simp⟩) ?_;refine wpAny_take (i:=7) (v:=.int .i64 (m:Int)) rfl (by kernel_rfl) (by kernel_rfl) (by kernel_rfl) (fun _ _ _ h=>h) (Or.inl ⟨by rfl,fun w=>by go_simp⟩) ?_;refine wpAny_take (i:=11) (v:=.pointer (some ⟨b,0,none⟩)) rfl (by kernel_rfl) (by kernel_rfl) (by kernel_rfl) (fun _ _ _ h=>h) (Or.inl ⟨by rfl,fun w=>by go_simp⟩) ?_;refine wpAny_take (i:=12) (v:=.pointer (some ⟨b,0,none⟩)) rfl (by kernel_rfl) (by kernel_rfl) (by kernel_rfl) (fun _ _ _ h=>h) (Or.inl ⟨by rfl,fun w=>by go_simp⟩) ?_
     refine wpAny_take (i:=13) (v:=.pointer (some ⟨b,3,none⟩)) rfl (by kernel_rfl) (by kernel_rfl) (by kernel_rfl) (fun _ _ _ h=>h) (Or.inl ⟨by rfl,fun w=>by go_simp⟩) ?_;refine wpAny_take (i:=15) (v:=.int .i64 (m:Int)) rfl (by kernel_rfl) (by kernel_rfl) (by kernel_rfl) (fun _ _ _ h=>h) (Or.inl ⟨by rfl,fun w=>by go_simp⟩) ?_;refine zec (S:=fun w'=>w'.cell? ⟨b,2,none⟩=some sv∧w'.cell? ⟨b,3,none⟩=some av) (T:=[20,23].contains) _ _ _ _ ?_;refine zag (i:=5) (v:=sv) rfl (by kernel_rfl) (by kernel_rfl) (by kernel_rfl) (by kernel_rfl) (by kernel_rfl) (fun _ _ _ h=>h) ⟨k2,k3⟩ (Or.inl ⟨by rfl,?_⟩) ?_
     ·intro w hS
      have s2:=hS.1;clear hS
      go_simp
      exact⟨rfl,rfl⟩
     refine zag (i:=14) (v:=av) rfl (by kernel_rfl) (by kernel_rfl) (by kernel_rfl) (by kernel_rfl) (by kernel_rfl) (fun _ _ _ h=>h) ⟨k2,k3⟩ (Or.inl ⟨by rfl,?_⟩) ?_
     ·intro w hS
      have s3:=hS.2;clear hS
      go_simp
      exact⟨rfl,rfl⟩
     refine zag (i:=8) (v:=.int .i64 (q:Int)) rfl (by kernel_rfl) (by kernel_rfl) (by kernel_rfl) (by kernel_rfl) (by kernel_rfl) (fun _ _ _ h=>h) ⟨k2,k3⟩ (Or.inl ⟨by rfl,?_⟩) ?_
     ·intro w hS
      clear hS
      go_simp
      exact⟨rfl,HFt.out w⟩
     -- ORDERS
     refine zhM (i:=9) (j:=16) (by kernel_rfl) ?ca ?cb
     case' ca=>
      refine zaw rfl (by rfl) (fun K' hK'=>?_)
      go_simp
      have hn1:(w13.alloc (.cells #[.int .i64 (q:Int)] 3)).heap[w13.heap.size]?=some (.cells #[.int .i64 (q:Int)] 3 (0,0)):=zv8 _ _;have hb1:Below w13.heap.size w13 (w13.alloc (.cells #[.int .i64 (q:Int)] 3)):=(zv3 _ _).alloc (zv0 _) _;have hk1:=HK13.out.below hb1;have hle1:w13.heap.size<(w13.alloc (.cells #[.int .i64 (q:Int)] 3)).heap.size:=zaa hn1;have HLe1:=Hd (show w13.heap.size≤w13.heap.size from hle13);have HN9_1:=Hd hn1;have HK_1:=Hd hk1;have HZ_1:=Hd (show w13.heap.size≤(w13.alloc (.cells #[.int .i64 (q:Int)] 3)).heap.size from zv6 HLe1.out (zv7 hle1));clear hn1;generalize w13.alloc (.cells #[.int .i64 (q:Int)] 3)=w9_1 at *;have hb1':=Hd (HB13.out.trans (hb1.mono (zv6 hBle (hle13))));refine hK' _ _ ⟨hk1.cells.1.2.2.1,hk1.cells.1.2.2.2⟩ ?_;clear hK' K' hk1 hb1 hle1;refine zhM (i:=10) (j:=16) (by kernel_rfl) ?ca1 ?ca2
     case' cb=>
      refine zaw rfl (by rfl) (fun K' hK'=>?_)
      go_simp
      have hn2:(w13.alloc (.cells #[.int .i64 (m:Int)] 3)).heap[w13.heap.size]?=some (.cells #[.int .i64 (m:Int)] 3 (0,0)):=zv8 _ _;have hb2:Below w13.heap.size w13 (w13.alloc (.cells #[.int .i64 (m:Int)] 3)):=(zv3 _ _).alloc (zv0 _) _;have hk2:=HK13.out.below hb2;have hle2:w13.heap.size<(w13.alloc (.cells #[.int .i64 (m:Int)] 3)).heap.size:=zaa hn2;have HLe2:=Hd (show w13.heap.size≤w13.heap.size from hle13);have HN16_2:=Hd hn2;have HK_2:=Hd hk2;have HZ_2:=Hd (show w13.heap.size≤(w13.alloc (.cells #[.int .i64 (m:Int)] 3)).heap.size from zv6 HLe2.out (zv7 hle2));clear hn2;generalize w13.alloc (.cells #[.int .i64 (m:Int)] 3)=w16_2 at *;have hb2':=Hd (HB13.out.trans (hb2.mono (zv6 hBle (hle13))));refine hK' _ _ ⟨hk2.cells.1.2.2.1,hk2.cells.1.2.2.2⟩ ?_;clear hK' K' hk2 hb2 hle2;refine zas (i:=9) (by kernel_rfl) ?_;refine zaw rfl (by rfl) (fun K' hK'=>?_)
      go_simp
      have hn3:(w16_2.alloc (.cells #[.int .i64 (q:Int)] 3)).heap[w16_2.heap.size]?=some (.cells #[.int .i64 (q:Int)] 3 (0,0)):=zv8 _ _;have hb3:Below w16_2.heap.size w16_2 (w16_2.alloc (.cells #[.int .i64 (q:Int)] 3)):=(zv3 _ _).alloc (zv0 _) _;have hk3:=HK_2.out.below hb3;have hle3:w16_2.heap.size<(w16_2.alloc (.cells #[.int .i64 (q:Int)] 3)).heap.size:=zaa hn3;have HLe3:=Hd (show w13.heap.size≤w16_2.heap.size from HZ_2.out);have HN16_3:=Hd ((hb3.block _ (zaa HN16_2.out)).trans HN16_2.out);have HN9_3:=Hd hn3;have HK_3:=Hd hk3;have HZ_3:=Hd (show w13.heap.size≤(w16_2.alloc (.cells #[.int .i64 (q:Int)] 3)).heap.size from zv6 HLe3.out (zv7 hle3));clear hn3;generalize w16_2.alloc (.cells #[.int .i64 (q:Int)] 3)=w9_3 at *;have hb3':=Hd (hb2'.out.trans (hb3.mono (zv6 hBle (HZ_2.out))));refine hK' _ _ ⟨hk3.cells.1.2.2.1,hk3.cells.1.2.2.2⟩ ?_;clear hK' K' hk3 hb3 hle3;refine zas (i:=10) (by kernel_rfl) ?_;refine zaw rfl (by rfl) (fun K' hK'=>?_);refine step_append_lies _ (by rfl) _ _ _ (by rfl) B 3 i1 _ 1 8 Tryz.underlying124 HIi.out.1 HIi.out.2.1 HIi.out.2.2.1 HIi.out.2.2.2 rfl (by omega) sv K.length (K.map fun k=>.int .i64 (k.size:Int)) (by rfl) HK_3.out.sizes ⟨_,0,none⟩ 1 1 [.int .i64 (q:Int)] (by rfl) (by rfl) (World.news_of_block (cs:=#[.int .i64 (q:Int)]) HN9_3.out) (by simp[Value.oneCell']) (by omega) (by unfold maxLen;omega) (by omega) (zv6 hBle HZ_3.out) _ rfl ?_;intro g10 cp10 w10_4 hown hgrow hat hlt;have hk:=HK_3.out.grewS hgrow hown (fun k hk=>zfa hat hk);have HZ_4:=Hd (zv6 HZ_3.out hgrow.size);have hb4':=Hd (hb3'.out.grown hgrow (zv6 hBle HZ_3.out) (fun k hk=>(HK_3.out.sizes.lt k hk).1));have HN16_4:=Hd ((hgrow.block _ (zaa HN16_3.out) (fun e=>by have h1:=HSV.out _ e.symm;have h2:=HLe2.out;omega)).trans HN16_3.out);have HK_4:=Hd hk
      refine hK' _ _ ⟨hk.cells.1.2.2.1,hk.cells.1.2.2.2⟩ ?_;clear hK' K' hk hown hgrow hat hlt;have HKt:=HK_4;have HNt:=HN16_4;have HZt:=HZ_4;have HBt:=hb4'
     case' ca1=>
      refine zaw rfl (by rfl) (fun K' hK'=>?_);refine step_append_lies _ (by rfl) _ _ _ (by rfl) B 3 i1 _ 1 8 Tryz.underlying124 HIi.out.1 HIi.out.2.1 HIi.out.2.2.1 HIi.out.2.2.2 rfl (by omega) sv K.length (K.map fun k=>.int .i64 (k.size:Int)) (by rfl) HK_1.out.sizes ⟨_,0,none⟩ 1 1 [.int .i64 (q:Int)] (by rfl) (by rfl) (World.news_of_block (cs:=#[.int .i64 (q:Int)]) HN9_1.out) (by simp[Value.oneCell']) (by omega) (by unfold maxLen;omega) (by omega) (zv6 hBle HZ_1.out) _ rfl ?_;intro g10 cp10 w10_5 hown hgrow hat hlt;have hk:=HK_1.out.grewS hgrow hown (fun k hk=>zfa hat hk);have HZ_5:=Hd (zv6 HZ_1.out hgrow.size);have hb5':=Hd (hb1'.out.grown hgrow (zv6 hBle HZ_1.out) (fun k hk=>(HK_1.out.sizes.lt k hk).1));have HK_5:=Hd hk;refine hK' _ _ ⟨hk.cells.1.2.2.1,hk.cells.1.2.2.2⟩ ?_;clear hK' K' hk hown hgrow hat hlt;refine zas (i:=16) (by kernel_rfl) ?_;refine zaw rfl (by rfl) (fun K' hK'=>?_)
      go_simp
      have hn6:(w10_5.alloc (.cells #[.int .i64 (m:Int)] 3)).heap[w10_5.heap.size]?=some (.cells #[.int .i64 (m:Int)] 3 (0,0)):=zv8 _ _;have hb6:Below w10_5.heap.size w10_5 (w10_5.alloc (.cells #[.int .i64 (m:Int)] 3)):=(zv3 _ _).alloc (zv0 _) _;have hk6:=HK_5.out.below hb6;have hle6:w10_5.heap.size<(w10_5.alloc (.cells #[.int .i64 (m:Int)] 3)).heap.size:=zaa hn6;have HLe6:=Hd (show w13.heap.size≤w10_5.heap.size from HZ_5.out);have HN16_6:=Hd hn6;have HK_6:=Hd hk6;have HZ_6:=Hd (show w13.heap.size≤(w10_5.alloc (.cells #[.int .i64 (m:Int)] 3)).heap.size from zv6 HLe6.out (zv7 hle6));clear hn6;generalize w10_5.alloc (.cells #[.int .i64 (m:Int)] 3)=w16_6 at *;have hb6':=Hd (hb5'.out.trans (hb6.mono (zv6 hBle (HZ_5.out))));refine hK' _ _ ⟨hk6.cells.1.2.2.1,hk6.cells.1.2.2.2⟩ ?_;clear hK' K' hk6 hb6 hle6;have HKt:=HK_6;have HNt:=HN16_6;have HZt:=HZ_6;have HBt:=hb6'
     case' ca2=>
      refine zaw rfl (by rfl) (fun K' hK'=>?_)
      go_simp
      have hn7:(w9_1.alloc (.cells #[.int .i64 (m:Int)] 3)).heap[w9_1.heap.size]?=some (.cells #[.int .i64 (m:Int)] 3 (0,0)):=zv8 _ _;have hb7:Below w9_1.heap.size w9_1 (w9_1.alloc (.cells #[.int .i64 (m:Int)] 3)):=(zv3 _ _).alloc (zv0 _) _;have hk7:=HK_1.out.below hb7;have hle7:w9_1.heap.size<(w9_1.alloc (.cells #[.int .i64 (m:Int)] 3)).heap.size:=zaa hn7;have HLe7:=Hd (show w13.heap.size≤w9_1.heap.size from HZ_1.out);have HN9_7:=Hd ((hb7.block _ (zaa HN9_1.out)).trans HN9_1.out);have HN16_7:=Hd hn7;have HK_7:=Hd hk7;have HZ_7:=Hd (show w13.heap.size≤(w9_1.alloc (.cells #[.int .i64 (m:Int)] 3)).heap.size from zv6 HLe7.out (zv7 hle7));clear hn7;generalize w9_1.alloc (.cells #[.int .i64 (m:Int)] 3)=w16_7 at *;have hb7':=Hd (hb1'.out.trans (hb7.mono (zv6 hBle (HZ_1.out))));refine hK' _ _ ⟨hk7.cells.1.2.2.1,hk7.cells.1.2.2.2⟩ ?_;clear hK' K' hk7 hb7 hle7;refine zas (i:=10) (by kernel_rfl) ?_;refine zaw rfl (by rfl) (fun K' hK'=>?_);refine step_append_lies _ (by rfl) _ _ _ (by rfl) B 3 i1 _ 1 8 Tryz.underlying124 HIi.out.1 HIi.out.2.1 HIi.out.2.2.1 HIi.out.2.2.2 rfl (by omega) sv K.length (K.map fun k=>.int .i64 (k.size:Int)) (by rfl) HK_7.out.sizes ⟨_,0,none⟩ 1 1 [.int .i64 (q:Int)] (by rfl) (by rfl) (World.news_of_block (cs:=#[.int .i64 (q:Int)]) HN9_7.out) (by simp[Value.oneCell']) (by omega) (by unfold maxLen;omega) (by omega) (zv6 hBle HZ_7.out) _ rfl ?_;intro g10 cp10 w10_8 hown hgrow hat hlt;have hk:=HK_7.out.grewS hgrow hown (fun k hk=>zfa hat hk);have HZ_8:=Hd (zv6 HZ_7.out hgrow.size);have hb8':=Hd (hb7'.out.grown hgrow (zv6 hBle HZ_7.out) (fun k hk=>(HK_7.out.sizes.lt k hk).1));have HN16_8:=Hd ((hgrow.block _ (zaa HN16_7.out) (fun e=>by have h1:=HSV.out _ e.symm;have h2:=HLe7.out;omega)).trans HN16_7.out);have HK_8:=Hd hk
      refine hK' _ _ ⟨hk.cells.1.2.2.1,hk.cells.1.2.2.2⟩ ?_;clear hK' K' hk hown hgrow hat hlt;have HKt:=HK_8;have HNt:=HN16_8;have HZt:=HZ_8;have HBt:=hb8'
     all_goals
      refine zas (i:=17) (by kernel_rfl) ?_;refine zaw rfl (by rfl) (fun K' hK'=>?_);refine step_append_lies _ (by rfl) _ _ _ (by rfl) B 3 i1 _ 1 8 Tryz.underlying124 HIi.out.1 HIi.out.2.1 HIi.out.2.2.1 HIi.out.2.2.2 rfl (by omega) av K.length (K.map fun k=>.int .i64 (k.align:Int)) (by rfl) HKt.out.aligns ⟨_,0,none⟩ 1 1 [.int .i64 (m:Int)] (by rfl) (by rfl) (World.news_of_block (cs:=#[.int .i64 (m:Int)]) HNt.out) (by simp[Value.oneCell']) (by omega) (by unfold maxLen;omega) (by omega) (zv6 hBle HZt.out) _ rfl ?_;intro g17 cp17 w17_9 hown hgrow hat hlt;have hk:=HKt.out.grewA hgrow hown (fun k hk=>zfa hat hk);have HZ_9:=Hd (zv6 HZt.out hgrow.size);have hb9':=Hd (HBt.out.grown hgrow (zv6 hBle HZt.out) (fun k hk=>(HKt.out.aligns.lt k hk).1));have HK_9:=Hd hk;refine hK' _ _ ⟨hk.cells.1.2.2.1,hk.cells.1.2.2.2⟩ ?_;clear hK' K' hk hown hgrow hat hlt;refine zas (i:=18) (by kernel_rfl) ?_;refine zaw rfl (by rfl) (fun K' hK'=>?_)
      go_simp
      refine hK' _ _ ⟨HK_9.out.cells.1.2.2.1,HK_9.out.cells.1.2.2.2⟩ ?_;clear hK' K';refine zas (i:=19) (by kernel_rfl) ?_;refine zaw rfl (by rfl) (fun K' hK'=>?_)
      go_simp
      refine hK' _ _ ⟨HK_9.out.cells.1.2.2.1,HK_9.out.cells.1.2.2.2⟩ ?_;clear hK' K';refine zas (i:=20) (by kernel_rfl) ?_;refine zgA rfl (by rfl) (fun K' hK'=>?_);obtain⟨⟨_,_,l2,l3⟩,lf⟩:=HK_9.out.cells;have lf2:=lf 2
      go_simp
      refine hK' _ _ ?_;clear hK' K' l2 l3 lf lf2;have HK20:=Hd (HK_9.out.put 2 (.slice (some ⟨g10,0,none⟩) (K.length+1) cp10) rfl);have HB20:=Hd (hb9'.out.setCell (p:=⟨b,2,none⟩) HK_9.out.base.1 (.slice (some ⟨g10,0,none⟩) (K.length+1) cp10));obtain⟨⟨_,_,l2,l3⟩,lf⟩:=HK20.out.cells;have lf3:=lf 3;generalize w17_9.setCell ⟨b,2,none⟩ (.slice (some ⟨g10,0,none⟩) (K.length+1) cp10)=w20 at *;refine wpAny_take (i:=21) (v:=.pointer (some ⟨b,0,none⟩)) rfl (by kernel_rfl) (by kernel_rfl) (by kernel_rfl) (fun _ _ _ h=>h) (Or.inl ⟨by rfl,fun w=>by go_simp⟩) ?_;refine wpAny_take (i:=22) (v:=.pointer (some ⟨b,3,none⟩)) rfl (by kernel_rfl) (by kernel_rfl) (by kernel_rfl) (fun _ _ _ h=>h) (Or.inl ⟨by rfl,fun w=>by go_simp⟩) ?_;refine wpAny_ready (rs:=[23]) (by kernel_rfl) (by simp) (AllReady.cons rfl (fun K' hK'=>?_) AllReady.nil)
      go_simp
      refine hK' _ _ ?_;clear hK' K' l2 l3 lf lf3;have HK23:=Hd (HK20.out.put 3 (.slice (some ⟨g17,0,none⟩) (K.length+1) cp17) rfl);have HB23:=Hd (HB20.out.setCell (p:=⟨b,3,none⟩) HK20.out.base.1 (.slice (some ⟨g17,0,none⟩) (K.length+1) cp17));generalize w20.setCell ⟨b,3,none⟩ (.slice (some ⟨g17,0,none⟩) (K.length+1) cp17)=w23 at *;refine wpAny_done (by kernel_rfl) ?_ _
      go_wp2_with fail
      go_ret;exact zu3 hfin.out HB23.out HK23.out hmvl
end
set_option maxHeartbeats 4000000
def SrRow (B:Nat)(w:World)(b off:Nat)(L:List Sr)(mv:List Value):Prop:=∀i x v,L[i]?=some x→mv[i]?=some v→w.cell? ⟨b,off+i*2,none⟩=some (.string x.name)∧w.cell? ⟨b,off+i*2+1,none⟩=some v∧IsMems B w v x.mems
structure IsSrs (B:Nat)(w:World)(a:Option Addr)(L:List Sr)(mv:List Value):Prop where
 len:mv.length=L.length
 at_:L≠[]→∃b off,a=some ⟨b,off,none⟩∧b<B∧SrRow B w b off L mv
 names:∀x ∈ L,x.name.size≤maxLen
theorem SrRow.below {B b off:Nat}{w w':World}{L:List Sr}{mv:List Value}(h:SrRow B w b off L mv)(hb:Below B w w')(hB:b<B):SrRow B w' b off L mv:=fun i x v hi hv=>by
 rw[hb.cell hB,hb.cell hB];obtain⟨h1,h2,h3⟩:=h i x v hi hv;exact⟨h1,h2,h3.below hb (zv0 _)⟩
theorem IsSrs.below {B:Nat}{w w':World}{a:Option Addr}{L:List Sr}{mv:List Value}(h:IsSrs B w a L mv)(hb:Below B w w'):IsSrs B w' a L mv:=
 ⟨h.len,fun hn=>(by obtain⟨b,off,e,hlt,hr⟩:=h.at_ hn;exact⟨b,off,e,hlt,hr.below hb hlt⟩),h.names⟩
theorem zmV {K:List Kn}:∀(l:List (ByteArray × ByteArray)) (seen:List ByteArray) (n a:Nat) {c:Int},zbo K l seen n a=.inl c→c≠0
 | [],_,_,_,_,h=>by rw[zbo]at h;cases h
 | m :: l,seen,n,a,c,h=>by
   rw[zbo]at h
   split at h
   ·obtain rfl:=Sum.inl.inj h;decide
   ·split at h
    ·obtain rfl:=Sum.inl.inj h;decide
    ·split at h
     ·obtain rfl:=Sum.inl.inj h;decide
     ·split at h
      ·obtain rfl:=Sum.inl.inj h;assumption
      ·split at h
       ·obtain rfl:=Sum.inl.inj h;decide
       ·exact zmV l _ _ _ h
theorem zml {K:List Kn}{x:Sr}{c:Int}(h:addK K x=.inl c):c≠0:=by
 unfold addK at h
 split at h
 ·obtain rfl:=Sum.inl.inj h;decide
 ·split at h
  ·obtain rfl:=Sum.inl.inj h;decide
  ·split at h
   ·obtain rfl:=Sum.inl.inj h;decide
   ·split at h
    ·obtain rfl:=Sum.inl.inj h;decide
    ·split at h
     ·obtain rfl:=Sum.inl.inj h
      rename_i h1
      exact zmV _ _ _ _ h1
     ·split at h
      ·obtain rfl:=Sum.inl.inj h;decide
      ·cases h
theorem zmW {K:List Kn}(hF:FitK K):∀(l:List (ByteArray × ByteArray)) (seen:List ByteArray) (n a:Nat) {n' a':Nat},1≤a∧a≤4→zbo K l seen n a=.inr (n',a')→1≤a'∧a'≤4
 | [],_,_,_,_,_,ha,h=>by rw[zbo]at h;obtain⟨rfl,rfl⟩:=Prod.mk.inj (Sum.inr.inj h);exact ha
 | m :: l,seen,n,a,n',a',ha,h=>by
   rw[zbo]at h
   split at h
   ·cases h
   ·split at h
    ·cases h
    ·split at h
     ·cases h
     ·split at h
      ·cases h
      ·split at h
       ·cases h
       ·rename_i t _ _ _
        have:=zlR hF t;exact zmW hF l _ _ _ (by omega) h
theorem znx {K:List Kn}(hF:FitK K)(h64:K.length<64){x:Sr}{k:Kn}(h:addK K x=.inr k):FitK (K++[k]):=by
 refine⟨by simp;omega,fun k' hk'=>?_⟩;rcases List.mem_append.1 hk' with h1|h1
 ·exact hF.2 k' h1
 ·obtain rfl:=List.mem_singleton.1 h1
  refine⟨(zu4 h).2.2,?_⟩;unfold addK at h
  split at h
  ·cases h
  ·split at h
   ·cases h
   ·split at h
    ·cases h
    ·split at h
     ·cases h
     ·split at h
      ·cases h
      ·split at h
       ·cases h
       ·rename_i n a hm _
        obtain rfl:=Sum.inr.inj h;exact zmW hF _ _ _ _ ⟨zv0 _,by decide⟩ hm
def zjz (mv:List Value)(L:List Sr)(w:World)(e:Ending)(w':World):Prop:=
 Below w.heap.size w w'∧((∃(i:Nat) (c:Int),zbh L=.inl (i,c)∧c≠0∧e=.returned (.tuple #[.pointer none,.agg #[.int .i64 (i:Int),.int .i64 c]])) ∨
  ∃K b mb lv sv av,zbh L=.inr K∧e=.returned (.tuple #[.pointer (some ⟨b,0,none⟩),.agg #[.int .i64 0,.int .i64 0]])∧FitK K∧KnAt (w.heap.size+1) w' b mb lv sv av mv K)
structure LearnInv (w w1:World)(b mb:Nat)(mv:List Value)(L:List Sr)(wy:World)(j:Nat)(K:List Kn):Prop where
 rest:zbv [] L=zbv K (L.drop j)
 len:K.length=j
 fit:FitK K
 below:Below (w.heap.size+1) w1 wy
 kn:∃lv sv av,KnAt (w.heap.size+1) wy b mb lv sv av (mv.take j) K
theorem zm5 {mv:List Value}{L:List Sr}{w w':World}{i:Nat}{c:Int}(h:zbh L=.inl (i,c))(hc:c≠0)(hb:Below w.heap.size w w') :
 zjz mv L w (.returned (.tuple #[.pointer none,.agg #[.int .i64 (i:Int),.int .i64 c]])) w':=⟨hb,.inl ⟨i,c,h,hc,rfl⟩⟩
theorem zqs {mv:List Value}{L:List Sr}{w w':World}{K:List Kn}{b mb:Nat}{lv sv av:Value}(h:zbh L=.inr K)(hF:FitK K)(hk:KnAt (w.heap.size+1) w' b mb lv sv av mv K)(hb:Below w.heap.size w w') :
 zjz mv L w (.returned (.tuple #[.pointer (some ⟨b,0,none⟩),.agg #[.int .i64 0,.int .i64 0]])) w':=⟨hb,.inr ⟨K,b,mb,lv,sv,av,h,rfl,hF,hk⟩⟩
theorem IsMems.mono {B B':Nat}{w:World}{v:Value}{L:List (ByteArray × ByteArray)}(h:IsMems B w v L)(hB:B≤B'):IsMems B' w v L:=by
 obtain⟨a,cap,rfl,hr⟩:=h;refine⟨a,cap,rfl,fun hn=>?_⟩;obtain⟨b,off,rfl,hlt,hm⟩:=hr hn;exact⟨b,off,rfl,zv5 hlt hB,hm⟩
theorem KnAt.low {B b mb:Nat}{w:World}{lv sv av:Value}{mv:List Value}{K:List Kn}(h:KnAt B w b mb lv sv av mv K)(a:Addr)(ha:a.block<B)(v:Value):KnAt B (w.setCell a v) b mb lv sv av mv K:=
 ⟨by rw[Below.heap_setCell _ _ _ _ (by have:=h.base.1;omega)];exact h.blk,h.base,h.names.other _ (by have:=h.base.2.1;omega) _,ownsRow_setCell_below h.sizes ha _,ownsRow_setCell_below h.aligns ha _,ownsRow_setCell_below h.list ha _,h.mems,h.apart⟩
theorem zlY (w:World):KnAt (w.heap.size+1) (learntW w) (w.heap.size+2) (w.heap.size+1) (.slice none 0 0) (.slice none 0 0) (.slice none 0 0) [] []:=
 zi5 (zel w).blk ⟨by omega,by omega,by omega⟩ (zel w).names
theorem zhK {w:World}{mv:List Value}{L:List Sr}:LearnInv w (learntW w) (w.heap.size+2) (w.heap.size+1) mv L (learntW w) 0 []:=
 ⟨rfl,rfl,zjf,zv3 _ _,_,_,_,zlY w⟩
theorem LearnInv.next {w w1 w2 w3 wy:World}{b mb j:Nat}{mv:List Value}{L:List Sr}{K:List Kn}{x:Sr}{v:Value}{k:Kn}{lv sv av:Value}(h:LearnInv w w1 b mb mv L wy j K)(hj:K.length<64)(h1:w.heap.size+1≤wy.heap.size)(h2:Below wy.heap.size wy w2)(h3:Below (w.heap.size+1) w2 w3)
 (hx:L.drop j=x :: L.drop (j+1)) (hv:mv.take (j+1)=mv.take j++[v]) (hk:addK K x=.inr k) (hkn:KnAt (w.heap.size+1) w3 b mb lv sv av (mv.take j++[v]) (K++[k])):LearnInv w w1 b mb mv L w3 (j+1) (K++[k]):=by
 refine⟨?_,by simp[h.len],znx h.fit hj hk,h.below.trans ((h2.mono h1).trans h3),lv,sv,av,by rw[hv];exact hkn⟩;rw[h.rest,hx,zbv,hk]
theorem LearnInv.bad {w w1 wy:World}{b mb j:Nat}{mv:List Value}{L:List Sr}{K:List Kn}{x:Sr}{c:Int}(h:LearnInv w w1 b mb mv L wy j K)(hx:L.drop j=x :: L.drop (j+1))(hk:addK K x=.inl c):zbv [] L=.inl (j,c):=by
 rw[h.rest,hx,zbv,hk,h.len]
theorem LearnInv.done {w w1 wy:World}{b mb:Nat}{mv:List Value}{L:List Sr}{K:List Kn}(h:LearnInv w w1 b mb mv L wy L.length K):zbv [] L=.inr K:=by
 rw[h.rest,List.drop_length,zbv]
theorem zm4 (a:Option Addr)(cap:Nat)(L:List Sr)(mv:List Value)(w:World)(hE:TE w)(hS:IsSrs w.heap.size w a L mv) :
 Calls Tryz.prog 79 #[.slice a L.length cap] w fun e w'=>zjz mv L w e w':=by
 have HE:=Hd hE;have HS:=Hd hS;have hmm:=@run_makeMap Tryz.prog;clear hE hS
 by_cases h64:64<L.length
 ·have hfin:=Hd (show zbh L=.inl (0,3) by unfold zbh;rw[if_pos h64])
  have t1:(64:Int)<L.length:=by omega
  clear h64
  go_enter Tryz.func79,Tryz.ntmps79
  go_wp2_with fail
  exact bodyPost_ret (v:=.tuple #[.pointer none,.agg #[.int .i64 ((0:Nat):Int),.int .i64 3]]) (by simp[results,Tryz.results79,go_sem]) rfl (zm5 hfin.out (by decide) ((zv3 _ _).alloc (zv0 _) _))
 have t1:(L.length:Int)≤64:=by omega
 have hL:=Hd (show zbh L=zbv [] L by unfold zbh;rw[if_neg h64]);have hat:=zin w;obtain⟨⟨d0,d1⟩,fd⟩:=zab hat;have hkn:=zel w
 go_enter Tryz.func79,Tryz.ntmps79
 go_wp2_with fail
 rw[zim];have hi0:=zhK (w:=w) (mv:=mv) (L:=L);have hw1:=zfe w;have hsz:=zkv w;generalize learntW w=w1 at *;have HI0:=Hd hi0;have HW1:=Hd hw1;have HAt:=Hd hat;have HSz:=Hd hsz;clear hkn hi0 hw1 fd hat hsz d0 d1
 go_loopg [17] L.length (fun g v17 wy=>∃(j:Nat) (K:List Kn),j≤L.length∧j+g=L.length∧v17=.int .i64 (j:Int)∧Hid (LearnInv w w1 (w.heap.size+2) (w.heap.size+1) mv L wy j K))
 case atStart=>exact⟨0,[],by omega,by omega,rfl,HI0.out⟩
 case round=>
  obtain⟨j,K,hj,hjg,rfl,HI⟩:=hrel;have hbr:Below w.heap.size w wr:=HW1.out.trans (HI.out.below.mono (by omega));have hzr:w.heap.size+1≤wr.heap.size:=by have:=HI.out.below.size;have:=HSz.out;omega
  have hat:wr.heap[w.heap.size]?=some (.cells #[.int .i64 0,.int .i64 0] 32 (0,0)):=(HI.out.below.block _ (by omega)).trans HAt.out
  by_cases hlt:j<L.length
  ·obtain⟨bb,off,ha,hbl,hrow⟩:=HS.out.at_ (fun e=>by rw[e]at hlt;simp at hlt)
   have hlm:j<mv.length:=by rw[HS.out.len];exact hlt
   obtain⟨e1,e2,hms⟩:=hrow j _ _ (zv1 hlt) (zv1 hlm);rw[← hbr.cell hbl]at e1 e2;have hx:=zjj L j hlt;have hv:=ziO mv j hlm;have hnx:=HS.out.names _ (zwb hlt);generalize L[j]'hlt=x at *;generalize mv[j]'hlm=v at *;have HX:=Hd hx;have HV:=Hd hv;have HMs:=Hd (hms.below hbr (zv0 _));have HMl:=Hd HS.out.len;obtain⟨am,cm,rfl,_⟩:=hms;have HAt':=Hd hat;have HNx:=Hd hnx;have HBr:=Hd hbr;clear hx hv hrow hlm hat hnx hbr;subst ha
   go_upto_region 7 with fail
   have hm2:(wr.alloc (.cells #[.string x.name,.slice am x.mems.length cm] 61)).heap[wr.heap.size]?=some (.cells #[.string x.name,.slice am x.mems.length cm] 61 (0,0)):=zv8 _ _;have hb2:Below wr.heap.size wr (wr.alloc (.cells #[.string x.name,.slice am x.mems.length cm] 61)):=(zv3 _ _).alloc (zv0 _) _;generalize wr.alloc (.cells #[.string x.name,.slice am x.mems.length cm] 61)=w2 at *;obtain⟨⟨m0,m1⟩,_⟩:=zab hm2;have HB2:=Hd hb2;have hbw2:=HBr.out.trans (hb2.mono HBr.out.size);have hk64:K.length<64:=by have:=HI.out.len;omega
   obtain⟨lv,sv,av,hkn⟩:=HI.out.kn;have HA:=Hd (zvU x (.slice am x.mems.length cm) w2 (HE.out.below hbw2) (hkn.below hb2) HI.out.fit hk64 HNx.out ((HMs.out.below hb2 HBr.out.size).mono hbw2.size));have h30:=(hb2.block _ (by omega)).trans HAt'.out;have HAt2:=Hd h30;have hz2:=zaa h30;clear hkn hbw2 hb2 hm2 h30 e1 e2
   go_wp2_with (go_at_call 107;(with_reducible refine HA.out.mono ?_))
   intro e w3 hend;obtain⟨hb3,⟨c,hc,rfl⟩|⟨k,lv',sv',av',hk,rfl,hkn⟩⟩:=hend
   ·have hfin:=Hd (hL.out.trans (HI.out.bad HX.out hc))
    have hcn:=zml hc;have t3:(c != 0)=true:=by simp[hcn]
    have h31:=(hb3.block _ (by omega)).trans HAt2.out;have hz3:=zaa h31;obtain⟨⟨d0,d1⟩,fd⟩:=zab h31;have fd0:=fd 0;have fd1:=fd 1;have HB3:=Hd (HBr.out.trans ((HB2.out.mono HBr.out.size).trans (hb3.mono (Nat.le_succ _))));have HCn:=Hd hcn;clear fd hb3 hc hcn h31
    go_wp2_with fail
    exact bodyPost_ret (v:=.tuple #[.pointer none,.agg #[.int .i64 (j:Int),.int .i64 c]]) (by simp[results,Tryz.results79,go_sem,d0,d1]) rfl (zm5 hfin.out HCn.out (za5 HB3.out _ _))
   ·have HN:=Hd (HI.out.next hk64 hzr HB2.out hb3 HX.out HV.out hk hkn)
    clear hb3 hk hkn
    go_wp2_with fail
    go_roundg (L.length-(j+1))
    case measure=>omega
    case rel=>exact⟨j+1,K++[k],by omega,by omega,by rw[zv9];rfl,HN.out⟩
  ·obtain rfl:j=L.length:=by omega
   have t3:(L.length:Int)≤(L.length:Int):=Int.le_refl _;have hfin:=Hd (hL.out.trans HI.out.done);obtain⟨lv,sv,av,hkn⟩:=HI.out.kn;have htk:mv.take L.length=mv:=List.take_of_length_le (by rw[HS.out.len];exact zv0 _);rw[htk]at hkn;have HKn:=Hd hkn;have HFt:=Hd HI.out.fit;have HBr:=Hd hbr;have hz3:=zaa hat;obtain⟨⟨d0,d1⟩,fd⟩:=zab hat;have fd0:=fd 0;have fd1:=fd 1;clear fd hbr hkn hat
   go_wp2_with fail
   exact bodyPost_ret (v:=.tuple #[.pointer (some ⟨w.heap.size+2,0,none⟩),.agg #[.int .i64 0,.int .i64 0]]) (by simp[results,Tryz.results79,go_sem,d0,d1]) rfl (zqs hfin.out HFt.out ((HKn.out.low _ (Nat.lt_succ_self _) _).low _ (Nat.lt_succ_self _) _) (za5 HBr.out _ _))
end Go.Proofs.YtbbaooeioogijaaGreatDoor
namespace Go.Proofs.YtbbaooeioogijaaGreatDoor
theorem zvL (x a:Nat)(h:0<a):x≤fitN x a:=by
 unfold fitN;have h1:=Nat.div_add_mod (x+a-1) a;have h2:=Nat.mod_lt (x+a-1) h;rw[Nat.mul_comm]at h1;omega
theorem zts {x y a:Nat}(h:x≤y):fitN x a≤fitN y a:=by
 unfold fitN;exact Nat.mul_le_mul_right a (Nat.div_le_div_right (by omega))
theorem zq9 {c x b a M:Nat}(h:c=min x M)(ha:0<a):min (fitN c a+min b M) M=min (fitN x a+b) M:=by
 subst h;rcases Nat.le_total x M with hx|hx
 ·rw[Nat.min_eq_left hx]
  omega
 ·rw[Nat.min_eq_right hx]
  have h1:=zvL M a ha;have h2:=zts (a:=a) hx;omega
theorem ztv {c x a M:Nat}(h:c=min x M)(ha:0<a):min (fitN c a) M=min (fitN x a) M:=by
 have:=zq9 (b:=0) h ha;simpa using this
theorem zuO {n b M:Nat}(_h:0<M):min (n*min b M) M=min (n*b) M:=by
 rcases Nat.le_total b M with hx|hx
 ·rw[Nat.min_eq_left hx]
 ·rw[Nat.min_eq_right hx]
  rcases Nat.eq_zero_or_pos n with rfl|hn
  ·simp
  ·have h1:M≤n*M:=Nat.le_mul_of_pos_left M hn
   have h2:n*M≤n*b:=Nat.mul_le_mul_left n hx;omega
end Go.Proofs.YtbbaooeioogijaaGreatDoor
namespace Go.Proofs.YtbbaooeioogijaaGreatDoor
open Go.RowKit
set_option maxRecDepth 100000
def zhn (L:List Sr)(s:List UInt8):Option Nat:=L.findIdx? fun k=>decide (k.name.data.toList=s)
def placeS (L:List Sr)(s:List UInt8):Int:=match zhn L s with
 | some i=>(i:Nat)
 | none=>-1
theorem zhm (K:List Kn)(s:List UInt8):zhn (K.map Kn.toSr) s=za3 K s:=by
 unfold zhn za3;rw[List.findIdx?_map];rfl
theorem zof (K:List Kn)(s:List UInt8):placeS (K.map Kn.toSr) s=placeK K s:=by
 unfold placeS placeK;rw[zhm];cases za3 K s<;>rfl
theorem ziy {K:List Kn}{m i:Nat}{s:List UInt8}(h:za3 (K.take m) s=some i):za3 K s=some i∧i<m:=by
 unfold za3 at *;rw[List.findIdx?_eq_some_iff_getElem]at *;obtain⟨h1,h2,h3⟩:=h;rw[List.length_take]at h1;refine⟨⟨by omega,by rw[List.getElem_take]at h2;exact h2,fun j hj=>?_⟩,by omega⟩;have:=h3 j hj;rw[List.getElem_take]at this;exact this
theorem zkm {K:List Kn}{m:Nat}:∀{t:Ty},thereT (K.take m) t=true→measT (K.take m) t=measT K t
 | .arr n t,h=>by rw[thereT]at h;rw[measT,measT,zkm h]
 | .str s,h=>by
   rw[thereT,Option.isSome_iff_exists]at h;obtain⟨i,hi⟩:=h;obtain⟨h1,h2⟩:=ziy hi;rw[measT,measT,hi,h1];simp only[Option.bind_some];rw[List.getElem?_take_of_lt h2]
 | .base _,_=>by simp[measT]
 | .ptr _,_=>by simp[measT]
 | .fn _ _,_=>by simp[measT]
def memR (K:List Kn):List (ByteArray × ByteArray)→Nat→Nat→Nat × Nat
 | [],n,a=>(n,a)
 | m :: l,n,a=>match tyS m.2 with
   | none=>(n,a)
   | some t=>memR K l (fitN n (measT K t).2+(measT K t).1) (max a (measT K t).2)
def zu8 (K:List Kn)(m:ByteArray × ByteArray):Prop:=∃t,tyS m.2=some t∧zbA K t=0∧objectT t=true
theorem zig {K:List Kn}:∀{l:List (ByteArray × ByteArray)} {seen:List ByteArray} {n a n' a':Nat},zbo K l seen n a=.inr (n',a')→memR K l n a=(n',a')∧∀m ∈ l,zu8 K m
 | [],_,_,_,_,_,h=>by rw[zbo]at h;exact⟨Sum.inr.inj h,fun m hm=>by cases hm⟩
 | m :: l,seen,n,a,n',a',h=>by
   rw[zbo]at h
   split at h
   ·cases h
   ·split at h
    ·cases h
    ·split at h
     ·cases h
     ·rename_i t ht
      split at h
      ·cases h
      ·rename_i hc
       split at h
       ·cases h
       ·rename_i ho
        obtain⟨h1,h2⟩:=zig h;refine⟨by rw[memR,ht];exact h1,fun m' hm'=>?_⟩;rcases List.mem_cons.1 hm' with rfl|hm'
        ·exact⟨t,ht,by simpa using hc,by simpa using ho⟩
        ·exact h2 m' hm'
theorem zme {K:List Kn}{t:Ty}(h:zbA K t=0):thereT K t=true∧shapeT t=true∧sizedT K t=true:=by
 unfold zbA at h
 split at h
 ·cases h
 ·split at h
  ·cases h
  ·rename_i h1
   split at h
   ·cases h
   ·rename_i h2
    split at h
    ·cases h
    ·rename_i h3
     exact⟨by simpa using h2,by simpa using h1,by simpa using h3⟩
structure GoodK (K:List Kn):Prop where
 mems:∀i (h:i<K.length),(∀m ∈ K[i].mems,zu8 (K.take i) m)∧∃n,memR (K.take i) K[i].mems 0 1=(n,K[i].align)∧K[i].size=fitN n K[i].align
 al:∀k ∈ K,1≤k.align∧k.align≤4
 len:K.length≤65
 mlen:∀k ∈ K,k.mems.length≤64
theorem zqI:GoodK []:=⟨(fun i h=>absurd h (Nat.not_lt_zero _)),(fun k h=>by cases h),by decide,(fun k h=>by cases h)⟩
theorem zfI {K:List Kn}(h:∀k ∈ K,1≤k.align∧k.align≤4):∀t:Ty,1≤(measT K t).2∧(measT K t).2≤4
 | .base c=>by rw[measT];repeat' split
               all_goals decide
 | .ptr _=>by rw[measT];decide
 | .fn _ _=>by rw[measT];decide
 | .arr n t=>by rw[measT];exact zfI h t
 | .str s=>by
   rw[measT]
   split
   ·rename_i k hk
    obtain⟨i,_,hi⟩:=Option.bind_eq_some_iff.1 hk;exact h k (List.mem_of_getElem? hi)
   ·decide
theorem zfG {K:List Kn}(h:∀k ∈ K,1≤k.align∧k.align≤4):∀(l:List (ByteArray × ByteArray)) (n a:Nat),1≤a∧a≤4→1≤(memR K l n a).2∧(memR K l n a).2≤4
 | [],_,_,ha=>by rw[memR];exact ha
 | m :: l,n,a,ha=>by
   rw[memR]
   split
   ·exact ha
   ·rename_i t _
    have:=zfI h t;exact zfG h l _ _ (by omega)
theorem zit {K:List Kn}(hG:GoodK K)(hl:K.length≤64){x:Sr}(hm64:x.mems.length≤64){n a:Nat}(h:zbo K x.mems [] 0 1=.inr (n,a)):GoodK (K++[({ x with size:=fitN n a,align:=a }:Kn)]):=by
 obtain⟨h1,h2⟩:=zig h;refine⟨fun i hi=>?_,fun k hk=>?_,by simp;omega,fun k hk=>?_⟩
 ·rcases Nat.lt_or_ge i K.length with hlt|hge
  ·have e:(K++[({ x with size:=fitN n a,align:=a }:Kn)]).take i=K.take i:=by rw[List.take_append_of_le_length (by omega)]
   rw[e,List.getElem_append_left hlt];exact hG.mems i hlt
  ·obtain rfl:i=K.length:=by simp at hi;omega
   have e:(K++[({ x with size:=fitN n a,align:=a }:Kn)]).take K.length=K:=by simp
   rw[e,List.getElem_append_right (zv0 _)];simp only[Nat.sub_self,List.getElem_cons_zero];exact⟨h2,n,h1,rfl⟩
 ·rcases List.mem_append.1 hk with hk|hk
  ·exact hG.al k hk
  ·obtain rfl:=List.mem_singleton.1 hk
   have:=zfG hG.al x.mems 0 1 ⟨zv0 _,by decide⟩;rw[h1]at this;exact this
 ·rcases List.mem_append.1 hk with hk|hk
  ·exact hG.mlen k hk
  ·obtain rfl:=List.mem_singleton.1 hk
   exact hm64
theorem zoZ {K:List Kn}{x:Sr}{k:Kn}(h:addK K x=.inr k):isNameB x.name=true∧(za3 K x.name.data.toList).isSome=false∧x.mems.length≤64∧x.mems≠[]∧∃n a,zbo K x.mems [] 0 1=.inr (n,a)∧k={ x with size:=fitN n a,align:=a }∧fitN n a≤65536:=by
 unfold addK at h
 split at h
 ·cases h
 ·rename_i h1
  split at h
  ·cases h
  ·rename_i h2
   split at h
   ·cases h
   ·rename_i h3
    split at h
    ·cases h
    ·rename_i h4
     split at h
     ·cases h
     ·rename_i n a hm
      split at h
      ·cases h
      ·rename_i h5
       exact⟨by simpa using h1,by simpa using h2,by omega,h4,n,a,hm,(Sum.inr.inj h).symm,by omega⟩
structure KnowsK (K:List Kn)(L:List Sr):Prop where
 good:GoodK K
 fit:FitK K
 list:K.map Kn.toSr=L
theorem zky:KnowsK [] []:=⟨zqI,zjf,rfl⟩
theorem zio {K:List Kn}{L:List Sr}{x:Sr}{k:Kn}(h:KnowsK K L)(hl:K.length<64)(hk:addK K x=.inr k):KnowsK (K++[k]) (L++[x]):=by
 obtain⟨_,_,h3,_,n,a,hm,rfl,_⟩:=zoZ hk;exact⟨zit h.good (by omega) h3 hm,znx h.fit hl hk,by rw[List.map_append,h.list];rfl⟩
theorem zgb:∀{l L:List Sr} {K K':List Kn},KnowsK K L→L.length+l.length≤64→zbv K l=.inr K'→KnowsK K' (L++l)
 | [],L,K,K',h,_,hl=>by
   rw[zbv]at hl;obtain rfl:=Sum.inr.inj hl;rw[List.append_nil];exact h
 | x :: l,L,K,K',h,hn,hl=>by
   rw[zbv]at hl;have hkl:K.length=L.length:=by rw[← h.list,List.length_map]
   simp only[List.length_cons]at hn
   split at hl
   ·cases hl
   ·rename_i k hk
    have:=zgb (zio h (by omega) hk) (by simp;omega) hl
    rwa [List.append_assoc]at this
theorem zkw {L:List Sr}{K:List Kn}(h:zbh L=.inr K):KnowsK K L:=by
 unfold zbh at h
 split at h
 ·cases h
 ·have:=zgb zky (by simp;omega) h
  exact this
def cutN (n:Nat):Nat:=min n 65537
theorem zsQ {n m b a:Nat}(h:m=cutN n)(ha:0<a):cutN (fitN m a+cutN b)=cutN (fitN n a+b):=zq9 h ha
theorem zkl {K:List Kn}:∀{l:List (ByteArray × ByteArray)} {m:ByteArray × ByteArray} {t:Ty} {n a:Nat},(∀m ∈ l,zu8 K m)→tyS m.2=some t→memR K (l++[m]) n a=(fitN (memR K l n a).1 (measT K t).2+(measT K t).1,max (memR K l n a).2 (measT K t).2)
 | [],m,t,n,a,_,ht=>by simp[memR,ht]
 | m' :: l,m,t,n,a,hok,ht=>by
   obtain⟨t',ht',_⟩:=hok m' (by simp);rw[List.cons_append,memR,memR,ht'];simp only;exact zkl (fun m hm=>hok m (by simp[hm])) ht
set_option maxHeartbeats 4000000
def runN (l:List UInt8):Nat:=(l.takeWhile digB).length
theorem zse {c:UInt8}{l:List UInt8}(h:digB c=true):runN (c :: l)=runN l+1:=by simp[runN,h]
theorem zud {c:UInt8}{l:List UInt8}(h:digB c=false):runN (c :: l)=0:=by simp[runN,h]
theorem zsf:runN []=0:=rfl
theorem zpD {a b:Int}(h:a=b):Ending.returned (.int .i64 a)=.returned (.int .i64 b):=by rw[h]
theorem zf6 (s:ByteArray)(k:Nat)(hk:k≤s.size)(hs:s.size≤1048576)(w:World):Calls Tryz.prog 140 #[.string s,.int .i64 (k:Int)] w fun e w'=>e=.returned (.int .i64 ((k+runN (sfx s k):Nat):Int))∧w'=w:=by
 have hs':(s.size:Int)≤1048576:=by omega
 go_enter Tryz.func140,Tryz.ntmps140
 go_wp2_with fail
 go_loopg [1] (s.size-k) (fun g v wy=>∃j:Nat,j≤s.size∧j+g=s.size∧v=.int .i64 (j:Int)∧Hid (k+runN (sfx s k)=j+runN (sfx s j))∧w=wy)
 case atStart=>exact⟨k,hk,by omega,rfl,rfl,rfl⟩
 case round=>
  obtain⟨j,hj,hjg,rfl,hr,rfl⟩:=hrel
  by_cases hlt:j<s.size
  ·by_cases hd:digB s[j]=true
   ·have HN:=Hd (show k+runN (sfx s k)=(j+1)+runN (sfx s (j+1)) by
     rw[hr.out,zaG s j hlt,zse hd];omega)
    have h2:=of_decide_eq_true hd;have t1:(48:Int)≤s[j].toNat:=by omega
    have t2:(s[j].toNat:Int)≤57:=by omega
    clear hd h2
    go_wp2_with fail
    go_roundg (s.size-(j+1))
    case measure=>omega
    case rel=>exact⟨j+1,by omega,by omega,by rw[zv9];rfl,HN.out,rfl⟩
   ·have hd':digB s[j]=false:=by simpa using hd
    have hfin:=Hd (show k+runN (sfx s k)=j by rw[hr.out,zaG s j hlt,zud hd'];omega);have h2:¬(48≤s[j].toNat∧s[j].toNat≤57):=of_decide_eq_false hd';have h3:(s[j].toNat:Int)<48∨((48:Int)≤s[j].toNat∧(57:Int)<s[j].toNat):=by omega
    clear hd hd' h2;rcases h3 with t1|⟨t1,t2⟩
    all_goals
     go_wp2_with fail
     go_ret;exact⟨zpD (by have:=hfin.out;omega),rfl⟩
  ·have hfin:=Hd (show k+runN (sfx s k)=j by rw[hr.out,zeI s j (by omega),zsf];omega)
   have t3:(s.size:Int)≤(j:Int):=by omega
   go_wp2_with fail
   go_ret;exact⟨zpD (by have:=hfin.out;omega),rfl⟩
theorem zgR (s:ByteArray)(w:World):Calls Tryz.prog 141 #[.string s,.int .i64 1099511627776] w (zeu (numT s.data.toList) w):=by
 have hl:s.data.toList.length=s.size:=by rw[Array.length_toList];rfl
 have Hl:=Hd hl;clear hl
 by_cases h0:s.size=0
 ·have hfin:=Hd (show numT s.data.toList=none by unfold numT;rw[if_pos (.inl (List.eq_nil_of_length_eq_zero (by rw[Hl.out];exact h0)))])
  have t1:((s.size:Int) == 0)=true:=by rw[beq_iff_eq];omega
  go_enter Tryz.func141,Tryz.ntmps141
  go_wp2_with fail
  go_ret2
  exact zbb hfin.out (zv3 _ _)
 ·have t1:((s.size:Int) == 0)=false:=by rw[zwa];omega
  by_cases h15:15<s.size
  ·have hfin:=Hd (zkf (l:=s.data.toList) (by rw[Hl.out];exact h15))
   have t2:(15:Int)<s.size:=by omega
   go_enter Tryz.func141,Tryz.ntmps141
   go_wp2_with fail
   go_ret2
   exact zbb hfin.out (zv3 _ _)
  ·have t2:(s.size:Int)≤15:=by omega
   by_cases hz:1<s.size∧s.data.toList.head?=some 48
   ·have hfin:=Hd (zke (l:=s.data.toList) (by rw[Hl.out];exact hz.1) hz.2)
    have h1:0<s.size:=by omega
    have t3:(1:Int)<s.size:=by omega
    have t4:((s[0].toNat:Int) == 48)=true:=by
     have:=hz.2;rw[zd3 s h1]at this;simp[Option.some.inj this]
    clear hz
    go_enter Tryz.func141,Tryz.ntmps141
    go_wp2_with fail
    go_ret2
    exact zbb hfin.out (zv3 _ _)
   ·have h1:0<s.size:=by omega
    have HZ:=Hd (show 1<s.data.toList.length→s.data.toList.head?≠some 48 from fun a b=>hz ⟨by rw[Hl.out]at a;exact a,b⟩);have hz':((s.size:Int)≤1)∨((1:Int)<s.size∧((s[0].toNat:Int) == 48)=false):=by
     by_cases h:1<s.size
     ·refine .inr ⟨by omega,?_⟩
      have h3:s.data.toList.head?≠some 48:=fun e=>hz ⟨h,e⟩
      rw[zd3 s h1]at h3;rw[zwa];intro e;have e':s[0].toNat=48:=by omega
      exact h3 (by rw[Option.some.injEq];exact UInt8.toNat_inj.1 e')
     ·exact .inl (by omega)
    clear hz
    go_enter Tryz.func141,Tryz.ntmps141
    go_upto_region 1 with fail
    go_cut [25] (fun v wx=>v=.bool false∧w=wx)
    case first=>
     rcases hz' with h|⟨h,h'⟩
     all_goals
      go_wp2_with fail
      go_meet
      exact⟨by congr 1;simp_all;try omega,rfl⟩
    case rest=>
     obtain⟨rfl,rfl⟩:=hcut;clear hz'
     go_wp2_with fail
     go_loopg [6,7] s.size (fun g nv i wy=>∃k:Nat,k≤s.size∧k+g=s.size∧i=.int .i64 (k:Int)∧nv=.int .i64 (valT (s.data.toList.take k):Nat)∧Hid ((s.data.toList.take k).all digB=true)∧w=wy)
     case atStart=>exact⟨0,Nat.zero_le _,by omega,rfl,rfl,rfl,rfl⟩
     case round=>
      obtain⟨k,hk,hkg,rfl,rfl,hd,rfl⟩:=hrel;have hv:valT (s.data.toList.take k)<10 ^ 15:=zv5 (zlb _ _ rfl hd.out) (Nat.pow_le_pow_right (by decide) (by rw[List.length_take];omega));have hv':(valT (s.data.toList.take k):Int)<1000000000000000:=by omega
      clear hv
      by_cases hlt:k<s.size
      ·have HT:=Hd (zjM s k hlt)
       rcases hdk:digB s[k] with _|_
       ·have hfin:=Hd (show numT s.data.toList=none from zmS (by
         rw[Bool.eq_false_iff];intro e;have:=List.all_eq_true.1 e _ (zwb (l:=s.data.toList) (n:=k) (by rw[Hl.out];exact hlt))
         rw[show s.data.toList[k]'(by rw[Hl.out];exact hlt)=s[k] from rfl,hdk]at this;cases this))
        have hw:(s[k].toNat:Int)<48∨(48≤(s[k].toNat:Int)∧57<(s[k].toNat:Int)):=by
         unfold digB at hdk;rw[decide_eq_false_iff_not]at hdk;omega
        clear hdk;rcases hw with h|⟨h,h'⟩
        all_goals
         go_wp2_with fail
         go_ret2
         exact zbb hfin.out (zv3 _ _)
       ·have h1:48≤(s[k].toNat:Int)∧(s[k].toNat:Int)≤57:=by
         unfold digB at hdk;rw[decide_eq_true_iff]at hdk;omega
        obtain⟨h1,h2⟩:=h1;have hd':=Hd (show (s.data.toList.take (k+1)).all digB=true by rw[HT.out,List.all_append,hd.out];simp[hdk]);have hv2:=Hd (show valT (s.data.toList.take (k+1))=10*valT (s.data.toList.take k)+(s[k].toNat-48) by rw[HT.out,zdN]);clear hdk;have hx0:(0:Int)≤(valT (s.data.toList.take k):Int):=by omega
        have HV:=Hd (show (valT (s.data.toList.take (k+1)):Int)=10*(valT (s.data.toList.take k):Int)+(s[k].toNat:Int)-48 by have:=hv2.out;omega);clear hv2;generalize (valT (s.data.toList.take k):Int)=x at hv' hx0 HV ⊢
        go_wp2_with fail
        go_roundg (s.size-(k+1))
        case measure=>omega
        case rel=>exact⟨k+1,by omega,by omega,by rw[zv9];rfl,by rw[HV.out],hd',rfl⟩
      ·obtain rfl:k=s.size:=by omega
       rw[← Hl.out,List.take_length]at hd hv';have e1:=Hd (show s.data.toList.take s.size=s.data.toList by rw[← Hl.out,List.take_length]);have hfin:=Hd (zmR (l:=s.data.toList) (by intro e;rw[e]at Hl;exact h0 Hl.out.symm) (by rw[Hl.out];omega) HZ.out hd.out);rw[e1.out];obtain⟨n,en⟩:∃n,n=valT s.data.toList:=⟨_,rfl⟩
       rw[← en]at hfin hv' ⊢;clear hd en;have t3:(s.size:Int)≤(s.size:Int):=Int.le_refl _
       go_wp2_with fail
       go_ret2
       exact zf9 hfin.out (zv3 _ _)
set_option maxHeartbeats 2000000
theorem za6 (t:Ty)(w:World):Calls Tryz.prog 93 #[.string (tyB t)] w fun e w'=>e=.returned (.int .u8 ((headT t).toNat:Int))∧w'=w:=by
 obtain⟨h0,hc⟩:=zau t;have HC:=Hd hc;generalize tyB t=s at *;clear hc
 go_enter Tryz.func93,Tryz.ntmps93
 go_wp2_with fail
 go_ret;exact⟨by rw[← HC.out];rfl,rfl⟩
theorem zmF {l r:List UInt8}(h:l.all digB=true)(hr:∀c,r.head?=some c→digB c=false):runN (l++r)=l.length:=by
 unfold runN
 induction l with
 | nil=>
   cases r with
   | nil=>rfl
   | cons c r=>simp[hr c rfl]
 | cons c l ih=>
   rw[List.all_cons,Bool.and_eq_true]at h;simp[h.1,ih h.2]
theorem zj1 (u:Ty)(w:World):Calls Tryz.prog 118 #[.string (tyB (.ptr u))] w fun e w'=>e=.returned (.tuple #[.string (tyB u),.int .i64 0])∧Below w.heap.size w w':=by
 have HK:=Hd (za6 (.ptr u) w);have HX:=Hd (ziL (t:=.ptr u) (u:=u) (k:=1) rfl);have h0:=(zau (.ptr u)).1;have hk:headT (.ptr u)=112:=rfl;rw[hk]at HK;generalize tyB (.ptr u)=s at *;have h1:(1:Int)≤s.size:=by omega
 clear hk
 go_enter Tryz.func118,Tryz.ntmps118
 go_wp2_with (go_at_call 93;(with_reducible refine HK.out.mono ?_);rintro e w1 ⟨rfl,hw1⟩;subst w1)
 rw[HX.out]
 go_ret2
 exact⟨rfl,zv3 _ _⟩
theorem zcS (n:Nat)(u:Ty)(hr:zaD (.arr n u))(hl:(code (.arr n u)).length≤65536)(w:World):Calls Tryz.prog 118 #[.string (tyB (.arr n u))] w fun e w'=>e=.returned (.tuple #[.string (tyB u),.int .i64 (n:Int)])∧Below w.heap.size w w':=by
 have HK:=Hd (za6 (.arr n u) w);have hk:headT (.arr n u)=97:=rfl;rw[hk]at HK;have hs:sfx (tyB (.arr n u)) 1=Lib.decDigits n++58 :: code u:=by rw[sfx,ze1,code];rfl
 have hrun:runN (sfx (tyB (.arr n u)) 1)=(Lib.decDigits n).length:=by
  rw[hs];exact zmF (zcz n).1 (fun c hc=>by obtain rfl:=zv4 hc;rfl)
 have hsz:(tyB (.arr n u)).size=1+(Lib.decDigits n).length+1+(code u).length:=by rw[zba,code];simp;omega
 have HD:=Hd (zf6 (tyB (.arr n u)) 1 (by omega) (by rw[zba];omega));rw[hrun]at HD;have HE1:=Hd (show ((tyB (.arr n u)).extract 1 (1+(Lib.decDigits n).length)).data.toList=Lib.decDigits n by rw[za8,hs,List.take_left])
 have HE2:=Hd (ziL (t:=.arr n u) (u:=u) (k:=1+(Lib.decDigits n).length+1) (by
  rw[code,Nat.add_comm 1,List.drop_succ_cons];rw[show (Lib.decDigits n).length+1=(Lib.decDigits n++[58]).length by simp]
  rw[show Lib.decDigits n++58 :: code u=(Lib.decDigits n++[58])++code u by simp,List.drop_left]))
 have HN:=Hd (zlK hr.1);have hl':(tyB (.arr n u)).size≤65536:=by rw[zba];exact hl
 generalize tyB (.arr n u)=s at *;generalize (Lib.decDigits n).length=d at *
 have HWh:=Hd (show Calls Tryz.prog 141 #[.string (s.extract 1 (1+d)),.int .i64 1099511627776] w fun e w'=>e=.returned (.tuple #[.int .i64 (n:Int),.bool true])∧Below w.heap.size w w' by
  have h:=zgR (s.extract 1 (1+d)) w;rw[HE1.out,HN.out]at h
  exact h)
 have hi:(((1+d:Nat):Int))=1+(d:Int):=by omega
 have b1:(1:Int)≤1+(d:Int):=by omega
 have b2:1+(d:Int)≤s.size:=by omega
 have b3:1+(d:Int)+1≤s.size:=by omega
 have b4:(s.size:Int)≤65536:=by omega
 rw[hi]at HD;clear hk hs hrun hl hr hi hsz hl'
 go_enter Tryz.func118,Tryz.ntmps118
 go_wp2_with (first|(go_at_call 93;(with_reducible refine HK.out.mono ?_);rintro e w1 ⟨rfl,hw1⟩;subst w1)|(go_at_call 140;refine(HD.out _).mono ?_;rintro e w2 ⟨rfl,hw2⟩;subst w2))
 go_wp2_with (go_at_call 141;(with_reducible refine HWh.out.mono ?_);rintro e w3 ⟨rfl,hb3⟩;have HB3:=Hd hb3;clear hb3)
 rw[HE2.out]
 go_ret2
 exact⟨rfl,HB3.out⟩
set_option maxHeartbeats 2000000
def zfo (s:ByteArray)(r:Option (Ty × List UInt8))(w:World)(e:Ending)(w':World):Prop:=
 (match r with
   | some q=>e=.returned (.tuple #[.int .i64 ((s.size-q.2.length:Nat):Int),.bool true])
   | none=>∃z:Int,e=.returned (.tuple #[.int .i64 z,.bool false]))∧Below w.heap.size w w'
theorem zc7 {s:ByteArray}{r:Option (Ty × List UInt8)}{w w':World}{z:Int}(hr:r=none)(hb:Below w.heap.size w w'):zfo s r w (.returned (.tuple #[.int .i64 z,.bool false])) w':=by subst hr;exact⟨⟨z,rfl⟩,hb⟩
theorem zfd {s:ByteArray}{r:Option (Ty × List UInt8)}{t:Ty}{q:List UInt8}{w w':World}{z:Int}(hr:r=some (t,q))(hz:z=((s.size-q.length:Nat):Int))(hb:Below w.heap.size w w'):zfo s r w (.returned (.tuple #[.int .i64 z,.bool true])) w':=by
 subst hr;subst hz;exact⟨rfl,hb⟩
theorem zsG (n k:Nat)(s:ByteArray)(w:World)(hk:s.size≤k):Calls Tryz.prog 122 #[.string s,.int .i64 (k:Int)] w (zfo s (tyF n (sfx s k)) w):=by
 have hfin:=Hd (show tyF n (sfx s k)=none by rw[zeI s k hk];cases n<;>rfl);have t1:(s.size:Int)≤k:=by omega
 go_enter Tryz.func122,Tryz.ntmps122
 go_wp2_with fail
 go_ret2
 exact zc7 hfin.out (zv3 _ _)
theorem zp2 (n k:Nat)(s:ByteArray)(w:World)(hk:k<s.size)(hs:s.size≤65536)(hc:zbz s[k]=true):Calls Tryz.prog 122 #[.string s,.int .i64 (k:Int)] w (zfo s (tyF (n+1) (sfx s k)) w):=by
 have hfin:=Hd (show tyF (n+1) (sfx s k)=some (.base s[k],sfx s (k+1)) by rw[zaG s k hk,tyF,if_pos hc]);have hz:=Hd (show ((k:Int)+1)=((s.size-(sfx s (k+1)).length:Nat):Int) by rw[zaJ];omega);have hs':(s.size:Int)≤65536:=by omega
 have e:∃x:Nat,s[k].toNat=x∧(x=118∨x=99∨x=115∨x=105∨x=117∨x=106):=⟨_,rfl,by rcases zaM hc with h|h|h|h|h|h<;>rw[h]<;>decide⟩
 obtain⟨x,hx,hor⟩:=e;have T:∀d:Nat,((s[k].toNat:Int) == (d:Int))=decide (x=d):=fun d=>by rw[Bool.eq_iff_iff,beq_iff_eq,decide_eq_true_iff,hx];omega
 clear hc hx;rcases hor with rfl|rfl|rfl|rfl|rfl|rfl
 all_goals
  have v1:=T 118;have v2:=T 99;have v3:=T 115;have v4:=T 105;have v5:=T 117;have v6:=T 106;simp only[Int.cast_ofNat_Int,Nat.reduceEqDiff,decide_true,decide_false]at v1 v2 v3 v4 v5 v6;clear T
  go_enter Tryz.func122,Tryz.ntmps122
  go_wp2_with fail
  go_ret2
  exact zfd hfin.out hz.out (zv3 _ _)
theorem zjP {c:UInt8}(h:zbz c=false):((c.toNat:Int) == 118)=false∧((c.toNat:Int) == 99)=false∧((c.toNat:Int) == 115)=false∧((c.toNat:Int) == 105)=false∧((c.toNat:Int) == 117)=false∧((c.toNat:Int) == 106)=false:=by
 have key:∀d:UInt8,zbz d=true→((c.toNat:Int) == (d.toNat:Int))=false:=fun d hd=>by
  rw[zwa];intro e;have:c=d:=UInt8.toNat_inj.1 (by omega);rw[this,hd]at h;cases h
 exact⟨key 118 (by decide),key 99 (by decide),key 115 (by decide),key 105 (by decide),key 117 (by decide),key 106 (by decide)⟩
theorem zsF (n k:Nat)(s:ByteArray)(w:World)(hk:k<s.size)(hs:s.size≤65536)(hc:s[k]=112)(ih:Calls Tryz.prog 122 #[.string s,.int .i64 ((k+1:Nat):Int)] w (zfo s (tyF n (sfx s (k+1))) w)) :
 Calls Tryz.prog 122 #[.string s,.int .i64 (k:Int)] w (zfo s (tyF (n+1) (sfx s k)) w):=by
 have ht:tyF (n+1) (sfx s k)=(tyF n (sfx s (k+1))).map fun q=>(.ptr q.1,q.2):=by rw[zaG s k hk,tyF,hc,if_neg (by decide),if_pos rfl]
 have hs':(s.size:Int)≤65536:=by omega
 obtain⟨v1,v2,v3,v4,v5,v6⟩:=zjP (c:=s[k]) (by rw[hc];decide);have v7:((s[k].toNat:Int) == 112)=true:=by rw[hc];rfl
 rw[zv9]at ih;have IH:=Hd ih;clear ih hc;rcases hr:tyF n (sfx s (k+1)) with _|⟨t,q⟩
 ·rw[hr]at ht IH
  have hfin:=Hd ht;clear ht hr
  go_enter Tryz.func122,Tryz.ntmps122
  go_wp2_with (go_at_call 122;refine IH.out.mono ?_;rintro e w1 ⟨⟨z,rfl⟩,hb⟩;have HB:=Hd hb;clear hb)
  go_ret2
  exact zc7 hfin.out HB.out
 ·rw[hr]at ht IH
  have hfin:=Hd ht;clear ht hr
  go_enter Tryz.func122,Tryz.ntmps122
  go_wp2_with (go_at_call 122;refine IH.out.mono ?_;rintro e w1 ⟨rfl,hb⟩;have HB:=Hd hb;clear hb)
  go_ret2
  exact zfd hfin.out rfl HB.out
theorem zkt {c:UInt8}{d:UInt8}(h:c≠d){m:Int}(hm:(d.toNat:Int)=m):((c.toNat:Int) == m)=false:=by
 rw[zwa,← hm];intro e;exact h (UInt8.toNat_inj.1 (by omega))
theorem zol (n k:Nat)(s:ByteArray)(w:World)(hk:k<s.size)(hs:s.size≤65536)(h0:zbz s[k]=false)(h1:s[k]≠112)(h2:s[k]≠97)(h3:s[k]≠83)(h4:s[k]≠102) :
 Calls Tryz.prog 122 #[.string s,.int .i64 (k:Int)] w (zfo s (tyF (n+1) (sfx s k)) w):=by
 have hfin:=Hd (show tyF (n+1) (sfx s k)=none by rw[zaG s k hk,tyF,if_neg (by simp[h0]),if_neg h1,if_neg h2,if_neg h3,if_neg h4]);have hs':(s.size:Int)≤65536:=by omega
 obtain⟨v1,v2,v3,v4,v5,v6⟩:=zjP h0;have v7:=zkt h1 (m:=112) rfl;have v8:=zkt h2 (m:=97) rfl;have v9:=zkt h3 (m:=83) rfl;have v10:=zkt h4 (m:=102) rfl;clear h0 h1 h2 h3 h4
 go_enter Tryz.func122,Tryz.ntmps122
 go_wp2_with fail
 go_ret2
 exact zc7 hfin.out (zv3 _ _)
set_option maxHeartbeats 4000000
theorem zjQ (s:ByteArray)(k m:Nat):sfx s k=(sfx s k).take m++sfx s (k+m):=by rw[← ziT,List.take_append_drop]
theorem zsE (n k:Nat)(s:ByteArray)(w:World)(hk:k<s.size)(hs:s.size≤65536)(hc:s[k]=83) :
 Calls Tryz.prog 122 #[.string s,.int .i64 (k:Int)] w (zfo s (tyF (n+1) (sfx s k)) w):=by
 have ht:=Hd (show tyF (n+1) (sfx s k)=(zbT 59 (sfx s (k+1))).bind fun q=>if zfF q.1=true then some (.str q.1,q.2) else none by
  rw[zaG s k hk,tyF,hc,if_neg (by decide),if_neg (by decide),if_neg (by decide),if_pos rfl])
 have hs':(s.size:Int)≤65536:=by omega
 obtain⟨v1,v2,v3,v4,v5,v6⟩:=zjP (c:=s[k]) (by rw[hc];decide);have v7:((s[k].toNat:Int) == 112)=false:=by rw[hc];rfl
 have v8:((s[k].toNat:Int) == 97)=false:=by rw[hc];rfl
 have v9:((s[k].toNat:Int) == 83)=true:=by rw[hc];rfl
 clear hc
 go_enter Tryz.func122,Tryz.ntmps122
 go_wp2_with fail
 have hz0:((k:Int)+1+((0:Nat):Int))=(k:Int)+1:=by omega
 go_loopg [9] s.size (fun g v wy=>∃m:Nat,k+1+m≤s.size∧v=.int .i64 ((k:Int)+1+(m:Int))∧Hid (s.size=m+g)∧Hid (59 ∉ (sfx s (k+1)).take m)∧w=wy)
 case atStart=>exact⟨0,by omega,by rw[hz0],(Nat.zero_add _).symm,by rw[List.take_zero];exact List.not_mem_nil,rfl⟩
 case round=>
  obtain⟨m,hm,rfl,hg,hno,rfl⟩:=hrel;have hi:((k:Int)+1+(m:Int))=((k+1+m:Nat):Int):=by omega
  rw[hi];clear hz0;obtain⟨j,hj⟩:∃j,j=k+1+m:=⟨_,rfl⟩
  rw[← hj]at hi hm ⊢;have HJ:=Hd hj;have HI:=Hd hi;have hkj:k+1≤j:=by omega
  clear hj hi
  by_cases hlt:j<s.size
  ·by_cases h59:s[j]=59
   ·have t1:((s[j].toNat:Int) != 59)=false:=by rw[h59];rfl
    have hL:sfx s (k+1)=(sfx s (k+1)).take m++59 :: sfx s (j+1):=by
     have h1:=zjQ s (k+1) m;rw[← HJ.out,zaG s j hlt,h59]at h1;exact h1
    have hcut:zbT 59 (sfx s (k+1))=some ((sfx s (k+1)).take m,sfx s (j+1)):=by
     conv=>lhs;rw[hL]
     exact zeq hno.out
    have hX:(s.extract (k+1) j).data.toList=(sfx s (k+1)).take m:=by rw[HJ.out,za8]
    have hnl:zfF ((sfx s (k+1)).take m)=isNameB (s.extract (k+1) j):=by
     rw[← hX,zfF]
    have HN:=Hd (zbI (s.extract (k+1) j) w);have ht2:=ht.out;rw[hcut]at ht2;simp only[Option.bind_some,hnl]at ht2;have hz:=Hd (show ((j:Int)+1)=((s.size-(sfx s (j+1)).length:Nat):Int) by rw[zaJ];omega);clear hL hcut hX hnl h59;rcases hnm:isNameB (s.extract (k+1) j) with _|_
    ·rw[hnm]at ht2 HN
     have hfin:=Hd ht2;clear ht2 hnm
     go_wp2_with (go_at_call 58;refine HN.out.mono ?_;rintro e w1 ⟨rfl,hb⟩;have HB:=Hd hb;clear hb)
     go_ret2
     exact zc7 (hfin.out.trans (by simp)) HB.out
    ·rw[hnm]at ht2 HN
     have hfin:=Hd ht2;clear ht2 hnm
     go_wp2_with (go_at_call 58;refine HN.out.mono ?_;rintro e w1 ⟨rfl,hb⟩;have HB:=Hd hb;clear hb)
     go_ret2
     exact zfd (hfin.out.trans (if_pos trivial)) hz.out HB.out
   ·have t1:((s[j].toNat:Int) != 59)=true:=by
     rw[bne_iff_ne];intro e;exact h59 (UInt8.toNat_inj.1 (by have h:(59:UInt8).toNat=59:=rfl;omega))
    have HN:=Hd (show 59 ∉ (sfx s (k+1)).take (m+1) by
     rw[List.take_add_one];have h1:(sfx s (k+1))[m]?=some s[j]:=by
      have h2:=zjQ s (k+1) m;rw[← HJ.out,zaG s j hlt]at h2;rw[h2,List.getElem?_append_right (by rw[List.length_take];omega)];rw[List.length_take,zaJ];have:m-min m (s.size-(k+1))=0:=by have:=HJ.out;omega
      rw[this];rfl
     rw[h1];simp only[Option.toList_some,List.mem_append,List.mem_singleton,not_or]
     exact⟨hno.out,fun e=>h59 e.symm⟩)
    clear h59
    go_wp2_with fail
    go_roundg (s.size-(m+1))
    case measure=>have:=hg.out;have:=HJ.out;omega
    case rel=>exact⟨m+1,by have:=HJ.out;omega,by have:=HJ.out;congr 1;omega,by have:=hg.out;have:=HJ.out;show s.size=_;omega,HN,rfl⟩
  ·have hfin:=Hd (show tyF (n+1) (sfx s k)=none by
    rw[ht.out];have h1:(sfx s (k+1)).take m=sfx s (k+1):=List.take_of_length_le (by rw[zaJ];have:=HJ.out;omega);rw[zep.2 (by rw[← h1];exact hno.out)]
    rfl)
   have t3:(s.size:Int)≤(j:Int):=by omega
   go_wp2_with fail
   go_ret2
   exact zc7 hfin.out (zv3 _ _)
end Go.Proofs.YtbbaooeioogijaaGreatDoor
