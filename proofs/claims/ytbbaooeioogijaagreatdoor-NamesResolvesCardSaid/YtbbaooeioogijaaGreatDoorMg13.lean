/- The built-in functions: the program. -/
import Derived.Test.YtbbaooeioogijaaGreatDoorFileF
namespace Go.Proofs.YtbbaooeioogijaaGreatDoor
open Go.RowKit Go.Maps
set_option maxRecDepth 100000
set_option maxHeartbeats 4000000
def bltC (q:ByteArray × ByteArray):List Value:=[.string q.1,.string q.2,.bool false]
def zoW:Array Value:=(builtL.flatMap bltC).toArray
theorem zoU (w:World):Calls Tryz.prog 13 #[] w fun e w'=>e=.returned (.slice (some ⟨w.heap.size,0,none⟩) 10 10)∧w'=w.alloc (.cells zoW 50):=by
 go_enter Tryz.func13,Tryz.ntmps13
 go_wp2_with fail
 go_ret;exact⟨rfl,rfl⟩
def BltAt (w:World)(g:Nat):Prop:=w.heap[g]?=some (.cells zoW 50 (0,0))
theorem BltAt.cells {w:World}{g:Nat}(h:BltAt w g){i:Nat}(hi:i<10):w.cell? ⟨g,i*3,none⟩=some (.string (builtL.getD i (⟨#[]⟩,⟨#[]⟩)).1)∧w.cell? ⟨g,i*3+1,none⟩=some (.string (builtL.getD i (⟨#[]⟩,⟨#[]⟩)).2)∧w.cell? ⟨g,i*3+2,none⟩=some (.bool false):=by
 unfold BltAt at h;simp only[World.cell?,h];have key:∀i<10,zoW[i*3]?=some (.string (builtL.getD i (⟨#[]⟩,⟨#[]⟩)).1)∧zoW[i*3+1]?=some (.string (builtL.getD i (⟨#[]⟩,⟨#[]⟩)).2)∧zoW[i*3+2]?=some (.bool false):=by
  intro i hi;rcases i with _|_|_|_|_|_|_|_|_|_|i
  all_goals first|exact⟨rfl,rfl,rfl⟩|omega
 exact key i hi
theorem ztF:∀{i:Nat},i<10→bltE[i]?=some ((builtL.getD i (⟨#[]⟩,⟨#[]⟩)).1,⟨4,(i:Int),(builtL.getD i (⟨#[]⟩,⟨#[]⟩)).2⟩):=fun {i} hi=>by
 unfold bltE;rw[List.getElem?_map,List.getElem?_range hi]
 rfl
theorem zu2:∀{i:Nat},i<10→entB (bltE.take i) (builtL.getD i (⟨#[]⟩,⟨#[]⟩)).1=none:=fun {i} hi=>by
 rcases i with _|_|_|_|_|_|_|_|_|_|i
 all_goals first|rfl|(exfalso;omega)
theorem ztE:∀{i:Nat},i<10→(builtL.getD i (⟨#[]⟩,⟨#[]⟩)).1.size≤maxLen:=fun {i} hi=>by
 have:(builtL.getD i (⟨#[]⟩,⟨#[]⟩)).1.size≤16:=by
  rcases i with _|_|_|_|_|_|_|_|_|_|i
  all_goals first|decide|(exfalso;omega)
 unfold maxLen;omega
theorem ztD {i:Nat}(hi:i<10)(t:ByteArray):(if t=(builtL.getD i (⟨#[]⟩,⟨#[]⟩)).1 then some ⟨4,(i:Int),(builtL.getD i (⟨#[]⟩,⟨#[]⟩)).2⟩ else entB (bltE.take i) t)=entB (bltE.take (i+1)) t:=by
 rw[List.take_add_one,ztF hi,Option.toList_some,zcJ]
 by_cases e:t=(builtL.getD i (⟨#[]⟩,⟨#[]⟩)).1
 ·subst e
  rw[zu2 hi,if_pos rfl]
 ·rw[if_neg e,if_neg e]
  rcases entB (bltE.take i) t with _|c<;>rfl
theorem zs0 (t:ByteArray):(FileN.mk [] []).look t=entB (bltE.take 10) t:=by
 have:bltE.take 10=bltE:=List.take_of_length_le (by unfold bltE;simp);rw[this]
 rfl
set_option maxHeartbeats 4000000
def bltN (i:Nat):ByteArray:=(builtL.getD i (⟨#[]⟩,⟨#[]⟩)).1
def builtI (s:ByteArray):Int:=(builtL.findIdx? fun q=>decide (q.1=s)).elim (-1) fun i=>(i:Int)
theorem zet:builtL.length=10:=rfl
theorem zdB {i:Nat}(h:i<builtL.length):(builtL[i]).1=bltN i:=by
 unfold bltN;rw[zv2,zv1 h]
 rfl
theorem zrn {s:ByteArray}{i:Nat}(hi:i<10)(hn:∀j,j<i→bltN j≠s)(he:bltN i=s):builtI s=i:=by
 have:builtL.findIdx? (fun q=>decide (q.1=s))=some i:=by
  rw[List.findIdx?_eq_some_iff_getElem];refine⟨hi,decide_eq_true ((zdB hi).trans he),fun j hj=>?_⟩;have h2:=hn j hj;rw[← zdB (Nat.lt_trans hj hi)]at h2;simpa using h2
 unfold builtI;rw[this]
 rfl
theorem zmh {s:ByteArray}(hn:∀j,j<10→bltN j≠s):builtI s=-1:=by
 have:builtL.findIdx? (fun q=>decide (q.1=s))=none:=by
  rw[List.findIdx?_eq_none_iff];intro x hx;obtain⟨j,hj,rfl⟩:=List.getElem_of_mem hx;have h2:=hn j hj;rw[← zdB hj]at h2;simpa using h2
 unfold builtI;rw[this]
 rfl
theorem zlB (w:World):Calls Tryz.prog 14 #[] w fun e w'=>e=.returned (.slice (some ⟨w.heap.size,0,none⟩) 10 10)∧w'=w.alloc (.cells zoW 50):=by
 go_enter Tryz.func14,Tryz.ntmps14
 go_wp2_with fail
 go_ret;exact⟨rfl,rfl⟩
theorem zgV (w:World):Calls Tryz.prog 14 #[] w fun e w'=>e=.returned (.slice (some ⟨w.heap.size,0,none⟩) 10 10)∧Below w.heap.size w w'∧BltAt w' w.heap.size:=by
 refine(zlB w).mono fun e w' ⟨h1,h2⟩=>⟨h1,?_,?_⟩
 ·rw[h2];exact ba1 w _
 ·rw[h2];exact zv8 _ _
theorem zdV (s:ByteArray)(w:World):Calls Tryz.prog 24 #[.string s] w fun e w'=>e=.returned (.int .i64 (builtI s))∧Below w.heap.size w w':=by
 have HBc:=Hd (zgV w)
 go_enter Tryz.func24,Tryz.ntmps24
 go_wp2_with (go_at_call 14;(with_reducible refine HBc.out.mono ?_);rintro e w1 ⟨rfl,hb1,hbl⟩;have HB1:=Hd hb1;have HBl:=Hd hbl;clear hb1 hbl)
 go_loopg [4] 10 (fun m v4 wy=>∃i:Nat,i≤10∧i+m=10∧v4=.int .i64 (i:Int)∧Hid (∀j,j<i→bltN j≠s)∧wy=w1)
 case atStart=>exact⟨0,by omega,by omega,rfl,Hd (fun j h=>by omega),rfl⟩
 case round=>
  obtain⟨i,hi,him,rfl,HK,rfl⟩:=hrel
  by_cases hlt:i<10
  ·have t1:decide ((i:Int)<10)=true:=by simp;omega
   obtain⟨c0,c1,c2⟩:=HBl.out.cells hlt;have he:=zbD (a:=bltN i) (b:=s);rw[show (builtL.getD i (⟨#[]⟩,⟨#[]⟩)).1=bltN i from rfl]at c0
   by_cases hs:bltN i=s
   ·have HF:=Hd (zrn hlt HK.out hs)
    rw[decide_eq_true hs]at he;clear hs;generalize bltN i=bn at *
    go_wp2_with fail
    go_ret;exact⟨by rw[HF.out];rfl,HB1.out⟩
   ·have HK2:=Hd (show ∀j,j<i+1→bltN j≠s from fun j hj=>by
     rcases Nat.lt_or_ge j i with h'|h'
     ·exact HK.out j h'
     ·obtain rfl:j=i:=by omega
      exact hs)
    rw[decide_eq_false hs]at he;clear hs;generalize bltN i=bn at *
    go_wp2_with fail
    go_roundg (10-(i+1))
    case measure=>omega
    case rel=>exact⟨i+1,by omega,by omega,by rw[zv9];rfl,HK2,rfl⟩
  ·obtain rfl:i=10:=by omega
   have HF:=Hd (zmh HK.out)
   go_wp2_with fail
   go_ret;exact⟨by rw[HF.out];rfl,HB1.out⟩
end Go.Proofs.YtbbaooeioogijaaGreatDoor
namespace Go.Proofs.YtbbaooeioogijaaGreatDoor
theorem zdi {L:List (ByteArray × Bnd)}{n:ByteArray}:entB L n=none↔∀q ∈ L,q.1≠n:=by
 unfold entB;rw[Option.map_eq_none_iff,List.find?_eq_none];simp
theorem ztt {L:List (ByteArray × Bnd)}{n:ByteArray}{b:Bnd}(h:entB L n=some b):(n,b) ∈ L:=by
 unfold entB at h;rw[Option.map_eq_some_iff]at h;obtain⟨q,hq,rfl⟩:=h;have h1:=List.find?_some hq;have h2:=List.mem_of_find?_eq_some hq;simp only[decide_eq_true_eq]at h1;subst h1;exact h2
theorem zc1 (n:ByteArray):(builtI n=-1∧entB bltE n=none)∨(0≤builtI n∧∃b,entB bltE n=some b):=by
 rcases h:builtL.findIdx? (fun q=>decide (q.1=n)) with _|i
 ·left
  refine⟨by unfold builtI;rw[h];rfl,zdi.2 fun q hq=>?_⟩;unfold bltE at hq;obtain⟨i,hi,rfl⟩:=List.mem_map.1 hq;rw[List.findIdx?_eq_none_iff]at h;have h10:i<builtL.length:=by rw[zet];exact List.mem_range.1 hi
  have h1:=h _ (zwb h10);rw[zdB h10]at h1;exact show bltN i≠n from by simpa using h1
 ·right
  refine⟨by unfold builtI;rw[h];show (0:Int)≤(i:Int);omega,?_⟩;rcases e:entB bltE n with _|b
  ·exfalso
   rw[List.findIdx?_eq_some_iff_getElem]at h;obtain⟨hi,h1,_⟩:=h;rw[zdB hi]at h1;refine zdi.1 e (bltN i,_) (List.mem_map.2 ⟨i,List.mem_range.2 (by rwa [zet]at hi),rfl⟩) (by simpa using h1)
  ·exact⟨b,rfl⟩
structure RfOk (s:FileN)(G:Nat)(B:List ByteArray):Prop where
 ok:FileOk s
 len:s.ents.length=G+s.funcs.length
 uniq:∀q ∈ s.ents,entB s.ents q.1=some q.2
 kinds:∀i (h:i<s.ents.length),s.ents[i].2.kind=if i<G then 1 else 2
 blt:∀q ∈ s.ents,builtI q.1<0
 bodies:∀n,n ∈ B↔∃f ∈ s.funcs,f.name=n∧f.body≠[]
theorem zsm:RfOk ⟨[],[]⟩ 0 []:=⟨zen,rfl,(fun q h=>by cases h),(fun i h=>by cases h),(fun q h=>by cases h),(fun n=>by simp)⟩
theorem zuw {s:FileN}{n:ByteArray}(h:n ∈ s.ents.map Prod.fst∨0≤builtI n):∃b,s.look n=some b:=by
 unfold FileN.look;rcases e:entB s.ents n with _|b
 ·rcases h with h|h
  ·obtain⟨q,hq,rfl⟩:=List.mem_map.1 h
   exact absurd rfl (zdi.1 e q hq)
  ·rcases zc1 n with ⟨h1,_⟩|⟨_,b,h2⟩
   ·omega
   ·exact⟨b,h2⟩
 ·exact⟨b,rfl⟩
theorem zlU {s:FileN}{n:ByteArray}(h:n ∉ s.ents.map Prod.fst)(hb:builtI n<0):s.look n=none:=by
 unfold FileN.look;have e:entB s.ents n=none:=zdi.2 fun q hq e=>h (List.mem_map.2 ⟨q,hq,e⟩)
 rw[e];rcases zc1 n with ⟨_,h2⟩|⟨h1,_⟩
 ·exact h2
 ·omega
theorem zjH {L:List (ByteArray × Bnd)}{n:ByteArray}{b:Bnd}(h:∀q ∈ L,entB L q.1=some q.2)(hn:n ∉ L.map Prod.fst):∀q ∈ L++[(n,b)],entB (L++[(n,b)]) q.1=some q.2:=by
 intro q hq;rw[zcJ];rcases List.mem_append.1 hq with h1|h1
 ·rw[h q h1]
 ·rw[List.mem_singleton]at h1
  subst h1;have e:entB L n=none:=zdi.2 fun q hq e=>hn (List.mem_map.2 ⟨q,hq,e⟩)
  rw[e];simp
theorem RfOk.glob {s:FileN}{n:ByteArray}(h:RfOk s s.ents.length [])(hn:n ∉ s.ents.map Prod.fst)(hb:builtI n<0)(i:Int)(t:ByteArray):RfOk (s.put n ⟨1,i,t⟩) (s.put n ⟨1,i,t⟩).ents.length []:=by
 have hl:=h.len;have hf:s.funcs=[]:=List.eq_nil_of_length_eq_zero (by omega);refine⟨h.ok.glob (zlU hn hb) i t,?_,zjH h.uniq hn,fun j hj=>?_,fun q hq=>?_,h.bodies⟩
 ·show _=_+s.funcs.length
  rw[hf];rfl
 ·rw[if_pos hj]
  have hj':j<(s.ents++[(n,(⟨1,i,t⟩:Bnd))]).length:=hj;show ((s.ents++[(n,(⟨1,i,t⟩:Bnd))])[j]'hj').2.kind=1;rcases Nat.lt_or_ge j s.ents.length with h1|h1
  ·rw[List.getElem_append_left h1,h.kinds j h1,if_pos h1]
  ·rw[List.getElem_append_right h1]
   simp
 ·rcases List.mem_append.1 (show q ∈ s.ents++[(n,(⟨1,i,t⟩:Bnd))] from hq) with h1|h1
  ·exact h.blt q h1
  ·rw[List.mem_singleton]at h1
   subst h1;exact hb
theorem RfOk.func {s:FileN}{G:Nat}{B:List ByteArray}(h:RfOk s G B){k:Nat}(hk:k<s.ents.length)(hG:G≤k):∃i,i<s.funcs.length∧(s.funcs.getD i fnU0).name=s.ents[k].1∧(s.funcs.getD i fnU0).type=s.ents[k].2.type∧s.look s.ents[k].1=some ⟨2,(i:Int),s.ents[k].2.type⟩:=by
 have h1:=h.uniq _ (zwb hk);have h2:=h.kinds k hk;rw[if_neg (by omega)]at h2;obtain⟨_,h4⟩:=h.ok.kinds _ _ h1;obtain⟨h5,h6,h7⟩:=h4 h2;refine⟨_,h6,h7,?_,?_⟩
 ·have h8:=h.ok.has _ h6
  rw[h7,h1]at h8;exact(congrArg Bnd.type (zv4 h8)).symm
 ·rw[zek h1]
  have h8:=h.ok.has _ h6;rw[h7,h1]at h8;have h9:=zv4 h8;have h10:=congrArg Bnd.type h9;simp only at h10;exact congrArg some (h9.trans (by rw[h10]))
theorem RfOk.six {s:FileN}{G:Nat}{B:List ByteArray}(h:RfOk s G B){x:FnU}(hx:x.name ∈ (s.ents.map Prod.fst).take G∨0≤builtI x.name∨(x.body≠[]∧x.name ∈ B)):oneF s x=.inl 6:=by
 unfold oneF;rcases hx with hx|hx|⟨hx,hb⟩
 ·obtain⟨i,hi,e⟩:=List.getElem_of_mem hx
  have hi1:i<G∧i<s.ents.length:=by
   rw[List.length_take,List.length_map]at hi;omega
  rw[List.getElem_take,List.getElem_map]at e;have h1:=h.uniq _ (zwb hi1.2);have h2:=h.kinds i hi1.2;rw[if_pos hi1.1]at h2;rw[e]at h1;rw[zek h1];simp only;rw[if_pos (by rw[h2];decide)]
 ·rcases zc1 x.name with ⟨h1,_⟩|⟨_,b,h2⟩
  ·omega
  rcases e:entB s.ents x.name with _|c
  ·have h3:s.look x.name=some b:=by unfold FileN.look;rw[e];exact h2
   rw[h3];simp only;rw[if_pos (by rw[zfl h2];decide)]
  ·have:=h.blt _ (ztt e)
   simp only at this;omega
 ·obtain⟨f,hf,hn,hfb⟩:=(h.bodies _).1 hb
  obtain⟨i,hi,rfl⟩:=List.getElem_of_mem hf;have hd:s.funcs.getD i fnU0=s.funcs[i]:=by rw[zv2,zv1 hi];rfl
  have h1:=h.ok.has i hi;rw[hd,hn]at h1;rw[zek h1];simp only;rw[if_neg (by decide),Int.toNat_natCast,hd,if_pos ⟨hx,hfb⟩]
structure NotSix (s:FileN)(G:Nat)(B:List ByteArray)(x:FnU):Prop where
 glob:x.name ∉ (s.ents.map Prod.fst).take G
 blt:builtI x.name<0
 body:x.body≠[]→x.name ∉ B
theorem RfOk.type {s:FileN}{G:Nat}{B:List ByteArray}(h:RfOk s G B){x:FnU}(hx:NotSix s G B x){k:Nat}(hk:k<s.ents.length)(hG:G≤k)(hn:s.ents[k].1=x.name)(ht:s.ents[k].2.type≠x.type):oneF s x=.inl 131:=by
 obtain⟨i,hi,h1,h2,h3⟩:=h.func hk hG;unfold oneF;rw[← hn,h3];simp only;rw[if_neg (by decide),Int.toNat_natCast,if_neg,if_pos (by rw[h2];exact ht)];rintro⟨h4,h5⟩;refine hx.body h4 ((h.bodies _).2 ⟨s.funcs.getD i fnU0,?_,by rw[h1,hn],h5⟩);rw[zv2,zv1 hi];exact zwb hi
def bodR (B:List ByteArray)(x:FnU):List ByteArray:=if x.body=[] then B else B++[x.name]
theorem RfOk.same {s:FileN}{G:Nat}{B:List ByteArray}(h:RfOk s G B){x:FnU}(hx:NotSix s G B x){k:Nat}(hk:k<s.ents.length)(hG:G≤k)(hn:s.ents[k].1=x.name)(ht:s.ents[k].2.type=x.type):∃s',oneF s x=.inr s'∧s'.ents=s.ents∧RfOk s' G (bodR B x):=by
 obtain⟨i,hi,h1,h2,h3⟩:=h.func hk hG;have hd:s.funcs.getD i fnU0=s.funcs[i]:=by rw[zv2,zv1 hi];rfl
 have e:oneF s x=if x.body≠[] then .inr ⟨s.ents,s.funcs.set i x⟩ else .inr s:=by
  unfold oneF;rw[← hn,h3];simp only;rw[if_neg (by decide),Int.toNat_natCast,if_neg,if_neg (by rw[h2];simpa using ht)];rintro⟨h4,h5⟩;refine hx.body h4 ((h.bodies _).2 ⟨s.funcs.getD i fnU0,?_,by rw[h1,hn],h5⟩);rw[hd];exact zwb hi
 unfold bodR
 by_cases hb:x.body=[]
 ·rw[if_neg (by simpa using hb)]at e
  rw[if_pos hb];exact⟨s,e,rfl,h⟩
 ·rw[if_pos hb]at e
  rw[if_neg hb];refine⟨_,e,rfl,h.ok.set (by rw[h1,hn]) (by rw[h2,ht]),?_,h.uniq,h.kinds,h.blt,fun n=>?_⟩
  ·simp only[List.length_set];exact h.len
  ·simp only
   rw[List.mem_append,List.mem_singleton,h.bodies n];constructor
   ·rintro(⟨f,hf,h5,h6⟩|rfl)
    ·obtain⟨j,hj,rfl⟩:=List.getElem_of_mem hf
     refine⟨s.funcs[j],?_,h5,h6⟩;have hij:i≠j:=by
      rintro rfl;exact hx.body hb ((h.bodies _).2 ⟨s.funcs[i],zwb hi,by rw[← hd,h1,hn],h6⟩)
     have:(s.funcs.set i x)[j]'(by simpa using hj)=s.funcs[j]:=List.getElem_set_ne hij _;rw[← this];exact zwb _
    ·exact⟨x,List.mem_set hi x,rfl,hb⟩
   ·rintro⟨f,hf,h5,h6⟩
    rcases List.mem_or_eq_of_mem_set hf with h7|rfl
    ·exact .inl ⟨f,h7,h5,h6⟩
    ·exact .inr h5.symm
theorem RfOk.new {s:FileN}{G:Nat}{B:List ByteArray}(h:RfOk s G B){x:FnU}(hx:NotSix s G B x)(hn:∀k (hk:k<s.ents.length),G≤k→s.ents[k].1≠x.name) :
 oneF s x=(if 128≤s.ents.length-G then .inl 3 else .inr ⟨s.ents++[(x.name,⟨2,((s.ents.length-G:Nat):Int),x.type⟩)],s.funcs++[x]⟩)∧RfOk ⟨s.ents++[(x.name,⟨2,((s.ents.length-G:Nat):Int),x.type⟩)],s.funcs++[x]⟩ G (bodR B x):=by
 have hl:=h.len;have hfl:s.ents.length-G=s.funcs.length:=by omega
 have hno:x.name ∉ s.ents.map Prod.fst:=fun hm=>by
  obtain⟨k,hk,e⟩:=List.getElem_of_mem hm;rw[List.length_map]at hk;rw[List.getElem_map]at e;rcases Nat.lt_or_ge k G with h1|h1
  ·refine hx.glob (List.mem_take_iff_getElem.2 ⟨k,by rw[List.length_map];omega,?_⟩)
   rw[List.getElem_map,e]
  ·exact hn k hk h1 e
 have hlk:=zlU hno hx.blt;rw[hfl];refine⟨?_,h.ok.new hlk,?_,zjH h.uniq hno,fun j hj=>?_,fun q hq=>?_,fun n=>?_⟩
 ·unfold oneF
  rw[hlk]
 ·simp only[List.length_append,List.length_cons,List.length_nil];omega
 ·simp only
  rcases Nat.lt_or_ge j s.ents.length with h1|h1
  ·rw[List.getElem_append_left h1,h.kinds j h1]
  ·rw[List.getElem_append_right h1,if_neg (by omega)]
   simp
 ·rcases List.mem_append.1 hq with h1|h1
  ·exact h.blt q h1
  ·rw[List.mem_singleton]at h1
   subst h1;exact hx.blt
 ·simp only
  unfold bodR
  by_cases hb:x.body=[]
  ·rw[if_pos hb,h.bodies n]
   constructor
   ·rintro⟨f,hf,h5,h6⟩
    exact⟨f,List.mem_append_left _ hf,h5,h6⟩
   ·rintro⟨f,hf,h5,h6⟩
    rcases List.mem_append.1 hf with h1|h1
    ·exact⟨f,h1,h5,h6⟩
    ·rw[List.mem_singleton]at h1
     subst h1;exact absurd hb h6
  ·rw[if_neg hb,List.mem_append,List.mem_singleton,h.bodies n]
   constructor
   ·rintro(⟨f,hf,h5,h6⟩|rfl)
    ·exact⟨f,List.mem_append_left _ hf,h5,h6⟩
    ·exact⟨x,List.mem_append_right _ (List.mem_singleton.2 rfl),rfl,hb⟩
   ·rintro⟨f,hf,h5,h6⟩
    rcases List.mem_append.1 hf with h1|h1
    ·exact .inl ⟨f,h1,h5,h6⟩
    ·rw[List.mem_singleton]at h1
     subst h1;exact .inr h5.symm
theorem ziu {L:List GlU}{i:Nat}(hi:i<L.length)(s:FileN):zaY (L.drop i) i s=match s.look L[i].var.name with
  | some _=>.inl (L[i].at_,6)
  | none=>zaY (L.drop (i+1)) (i+1) (s.put L[i].var.name ⟨1,(i:Int),L[i].var.type⟩):=by
 rw[List.drop_eq_getElem_cons hi,zaY];cases s.look L[i].var.name<;>rfl
theorem zdg {L:List FnU}{i:Nat}(hi:i<L.length)(s:FileN):zaP (L.drop i) s=match oneF s L[i] with
  | .inl c=>.inl (L[i].at_,c)
  | .inr s'=>zaP (L.drop (i+1)) s':=by
 rw[List.drop_eq_getElem_cons hi,zaP];cases oneF s L[i]<;>rfl
def GlobI (u:UnU)(i:Nat)(N:List ByteArray)(O:List Bnd):Prop:=∃s,N=s.ents.map Prod.fst∧O=s.ents.map Prod.snd∧RfOk s s.ents.length []∧za1 u=match zaY (u.globals.drop i) i s with
 | .inl f=>.inl f
 | .inr s=>zaP u.funcs s
def FunI (u:UnU)(G i:Nat)(N:List ByteArray)(O:List Bnd)(S:List ByteArray):Prop:=∃s,N=s.ents.map Prod.fst∧O=s.ents.map Prod.snd∧RfOk s G S∧za1 u=zaP (u.funcs.drop i) s
theorem GlobI.start {u:UnU}(h:(unitE u).2=0):GlobI u 0 [] []:=⟨⟨[],[]⟩,rfl,rfl,zsm,by
 unfold za1;rw[if_neg (by simpa using h),List.drop_zero]
 cases zaY u.globals 0 ⟨[],[]⟩<;>rfl⟩
theorem GlobI.bad {u:UnU}{i:Nat}{N:List ByteArray}{O:List Bnd}(h:GlobI u i N O)(hi:i<u.globals.length)(hx:u.globals[i].var.name ∈ N∨0≤builtI u.globals[i].var.name):za1 u=.inl (u.globals[i].at_,6):=by
 obtain⟨s,rfl,_,_,e⟩:=h;obtain⟨b,hb⟩:=zuw hx;rw[e,ziu hi,hb]
theorem GlobI.next {u:UnU}{i:Nat}{N:List ByteArray}{O:List Bnd}(h:GlobI u i N O)(hi:i<u.globals.length)(hn:u.globals[i].var.name ∉ N)(hb:builtI u.globals[i].var.name<0):GlobI u (i+1) (N++[u.globals[i].var.name]) (O++[⟨1,(i:Int),u.globals[i].var.type⟩]):=by
 obtain⟨s,rfl,rfl,hr,e⟩:=h;refine⟨s.put u.globals[i].var.name ⟨1,(i:Int),u.globals[i].var.type⟩,?_,?_,hr.glob hn hb _ _,?_⟩
 ·unfold FileN.put;simp
 ·unfold FileN.put;simp
 ·rw[e,ziu hi,zlU hn hb]
theorem GlobI.done {u:UnU}{N:List ByteArray}{O:List Bnd}(h:GlobI u u.globals.length N O):FunI u N.length 0 N O []:=by
 obtain⟨s,rfl,rfl,hr,e⟩:=h;refine⟨s,rfl,rfl,by rw[List.length_map];exact hr,?_⟩;rw[e,List.drop_length,zaY,List.drop_zero]
section
variable {u:UnU} {G i:Nat} {N:List ByteArray} {O:List Bnd} {S:List ByteArray}
theorem FunI.six (h:FunI u G i N O S)(hi:i<u.funcs.length)(hx:u.funcs[i].name ∈ N.take G∨0≤builtI u.funcs[i].name∨(u.funcs[i].body≠[]∧u.funcs[i].name ∈ S)):za1 u=.inl (u.funcs[i].at_,6):=by
 obtain⟨s,rfl,rfl,hr,e⟩:=h;rw[e,zdg hi,hr.six hx]
structure NotSixI (G:Nat)(N S:List ByteArray)(x:FnU):Prop where
 glob:x.name ∉ N.take G
 blt:builtI x.name<0
 body:x.body≠[]→x.name ∉ S
theorem FunI.type (h:FunI u G i N O S)(hi:i<u.funcs.length)(hx:NotSixI G N S u.funcs[i]){k:Nat}(hk:k<N.length)(hk':k<O.length)(hG:G≤k)(hn:N[k]=u.funcs[i].name)(ht:O[k].type≠u.funcs[i].type):za1 u=.inl (u.funcs[i].at_,131):=by
 obtain⟨s,rfl,rfl,hr,e⟩:=h;rw[List.length_map]at hk;rw[List.getElem_map]at hn ht;rw[e,zdg hi,hr.type ⟨hx.glob,hx.blt,hx.body⟩ hk hG hn ht]
theorem FunI.same (h:FunI u G i N O S)(hi:i<u.funcs.length)(hx:NotSixI G N S u.funcs[i]){k:Nat}(hk:k<N.length)(hk':k<O.length)(hG:G≤k)(hn:N[k]=u.funcs[i].name)(ht:O[k].type=u.funcs[i].type):FunI u G (i+1) N O (bodR S u.funcs[i]):=by
 obtain⟨s,rfl,rfl,hr,e⟩:=h;rw[List.length_map]at hk;rw[List.getElem_map]at hn ht;obtain⟨s',h1,h2,h3⟩:=hr.same ⟨hx.glob,hx.blt,hx.body⟩ hk hG hn ht;exact⟨s',by rw[h2],by rw[h2],h3,by rw[e,zdg hi,h1]⟩
theorem FunI.long (h:FunI u G i N O S)(hi:i<u.funcs.length)(hx:NotSixI G N S u.funcs[i])(hn:∀k (hk:k<N.length),G≤k→N[k]≠u.funcs[i].name)(hl:128≤N.length-G):za1 u=.inl (u.funcs[i].at_,3):=by
 obtain⟨s,rfl,rfl,hr,e⟩:=h;rw[List.length_map]at hl;rw[e,zdg hi,(hr.new ⟨hx.glob,hx.blt,hx.body⟩ (fun k hk hG e=>hn k (by rwa [List.length_map]) hG (by rw[List.getElem_map];exact e))).1,if_pos hl]
theorem FunI.new (h:FunI u G i N O S)(hi:i<u.funcs.length)(hx:NotSixI G N S u.funcs[i])(hn:∀k (hk:k<N.length),G≤k→N[k]≠u.funcs[i].name)(hl:¬128≤N.length-G):FunI u G (i+1) (N++[u.funcs[i].name]) (O++[⟨2,((N.length-G:Nat):Int),u.funcs[i].type⟩]) (bodR S u.funcs[i]):=by
 obtain⟨s,rfl,rfl,hr,e⟩:=h;rw[List.length_map]at hl ⊢;obtain⟨h1,h2⟩:=hr.new ⟨hx.glob,hx.blt,hx.body⟩ (fun k hk hG e=>hn k (by rwa [List.length_map]) hG (by rw[List.getElem_map];exact e));exact⟨_,by simp,by simp,h2,by rw[e,zdg hi,h1,if_neg hl]⟩
theorem FunI.done (h:FunI u G u.funcs.length N O S):∃s,za1 u=.inr s∧N=s.ents.map Prod.fst∧O=s.ents.map Prod.snd:=by
 obtain⟨s,h1,h2,_,e⟩:=h;exact⟨s,by rw[e,List.drop_length,zaP],h1,h2⟩
end
def slU0:SlU:=⟨⟨#[]⟩,⟨#[]⟩,false,false⟩
abbrev LocN:=ByteArray × Nat × Nat
structure WayN where
 slots:List SlU
 out:List Bnd
 ins:List LocN
def locB (sl:List SlU)(l:LocN):Bnd:=⟨3,(l.2.1:Int),(sl.getD l.2.1 slU0).type⟩
def WayN.put (w:WayN)(k:Nat)(b:Bnd):WayN:=⟨w.slots,w.out.set k b,w.ins⟩
def WayN.bind (w:WayN)(l:LocN):WayN:=⟨w.slots,w.out,w.ins++[l]⟩
def WayN.cut (w:WayN)(n:Nat):WayN:=⟨w.slots,w.out,w.ins.take n⟩
def WayN.found (fs:FileN)(w:WayN)(n:ByteArray):Option Bnd:=match w.ins.reverse.find? (fun l=>decide (l.1=n)) with
 | some l=>some (locB w.slots l)
 | none=>fs.look n
def zdP (L:List LocN)(n:ByteArray)(d:Nat):Bool:=L.any fun l=>decide (l.1=n) && decide (l.2.2=d)
def WayN.slot (w:WayN)(x:SlU)(a:Int)(d:Nat):(Int × Int) ⊕ WayN:=
 if zdP w.ins x.name d=true then .inl (a,6) else if 256≤w.slots.length then .inl (a,3) else .inr ⟨w.slots++[x],w.out,w.ins⟩
def zcA {α β:Type}(q:(Int × Int) ⊕ α)(f:α→(Int × Int) ⊕ β):(Int × Int) ⊕ β:=match q with
 | .inl e=>.inl e
 | .inr a=>f a
mutual
def goF (t:List Nd)(fr:List Nat)(fs:FileN):Nat→Nat→Nat→WayN→(Int × Int) ⊕ WayN
 | 0,_,_,w=>.inr w
 | m+1,k,d,w=>
   if (t.getD k ndU0).kind=3 then (match w.found fs (t.getD k ndU0).text with
    | some b=>.inr (w.put k b)
    | none=>.inl ((t.getD k ndU0).at_,130))
   else if (t.getD k ndU0).kind=22 then zcA (w.slot (zbf (t.getD k ndU0)) (t.getD k ndU0).at_ d) fun w1=>
    zcA (gosF t fr fs m (partsAt t fr k) d (w1.put k ⟨3,(w.slots.length:Int),(t.getD k ndU0).type⟩)) fun w2=>.inr (w2.bind ((t.getD k ndU0).text,w.slots.length,d))
   else if (t.getD k ndU0).kind=21∨(t.getD k ndU0).kind=26 then zcA (gosF t fr fs m (partsAt t fr k) (d+1) w) fun w2=>.inr (w2.cut w.ins.length)
   else gosF t fr fs m (partsAt t fr k) d w
def gosF (t:List Nd)(fr:List Nat)(fs:FileN):Nat→List Nat→Nat→WayN→(Int × Int) ⊕ WayN
 | _,[],_,w=>.inr w
 | m,p :: ps,d,w=>zcA (goF t fr fs m p d w) fun w1=>gosF t fr fs m ps d w1
end
def goN (t:List Nd)(fr:List Nat)(fs:FileN)(k d:Nat)(w:WayN):(Int × Int) ⊕ WayN:=goF t fr fs (k+1) k d w
def gosN (t:List Nd)(fr:List Nat)(fs:FileN):List Nat→Nat→WayN→(Int × Int) ⊕ WayN
 | [],_,w=>.inr w
 | p :: ps,d,w=>zcA (goN t fr fs p d w) fun w1=>gosN t fr fs ps d w1
theorem znb {t:List Nd}{fr:List Nat}{fs:FileN}{m:Nat}(h:∀k,k<m→∀d w,goF t fr fs m k d w=goN t fr fs k d w):∀(ps:List Nat),(∀p ∈ ps,p<m)→∀d w,gosF t fr fs m ps d w=gosN t fr fs ps d w
 | [],_,d,w=>by rw[gosF,gosN]
 | p :: ps,hp,d,w=>by
   rw[gosF,gosN,h p (hp p List.mem_cons_self)]
   congr 1
   funext w1
   exact znb h ps (fun q hq=>hp q (List.mem_cons_of_mem _ hq)) d w1
theorem zuF {t:List Nd}{fr:List Nat}{fs:FileN}(hf:Formed t fr):∀(m k:Nat),k<m→∀d w,goF t fr fs m k d w=goN t fr fs k d w:=by
 intro m
 induction m using Nat.strongRecOn with
 | ind m ih=>
   intro k hk d w;cases m with
   | zero=>omega
   | succ m=>
     unfold goN;have hps:∀p ∈ partsAt t fr k,p<k:=fun p hp=>hf.parts_lt hp
     have h1:=fun d w=>znb (t:=t) (fr:=fr) (fs:=fs) (m:=m) (fun q hq=>ih m (by omega) q hq) (partsAt t fr k) (fun p hp=>by have:=hps p hp;omega) d w
     have h2:=fun d w=>znb (t:=t) (fr:=fr) (fs:=fs) (m:=k) (fun q hq=>ih k (by omega) q hq) (partsAt t fr k) hps d w
     rw[goF,goF];simp only[h1,h2]
theorem zgf {t:List Nd}{fr:List Nat}{fs:FileN}(hf:Formed t fr)(k d:Nat)(w:WayN):goN t fr fs k d w =
 if (t.getD k ndU0).kind=3 then (match w.found fs (t.getD k ndU0).text with
  | some b=>.inr (w.put k b)
  | none=>.inl ((t.getD k ndU0).at_,130))
 else if (t.getD k ndU0).kind=22 then zcA (w.slot (zbf (t.getD k ndU0)) (t.getD k ndU0).at_ d) fun w1=>
  zcA (gosN t fr fs (partsAt t fr k) d (w1.put k ⟨3,(w.slots.length:Int),(t.getD k ndU0).type⟩)) fun w2=>.inr (w2.bind ((t.getD k ndU0).text,w.slots.length,d))
 else if (t.getD k ndU0).kind=21∨(t.getD k ndU0).kind=26 then zcA (gosN t fr fs (partsAt t fr k) (d+1) w) fun w2=>.inr (w2.cut w.ins.length)
 else gosN t fr fs (partsAt t fr k) d w:=by
 have hps:∀p ∈ partsAt t fr k,p<k:=fun p hp=>hf.parts_lt hp
 have h2:=fun d w=>znb (t:=t) (fr:=fr) (fs:=fs) (m:=k) (fun q hq=>zuF hf k q hq) (partsAt t fr k) hps d w
 rw[goN,goF];simp only[h2]
def mapW (f:WayN→WayN)(q:(Int × Int) ⊕ WayN):(Int × Int) ⊕ WayN:=zcA q fun w=>.inr (f w)
theorem zl3 {t:List Nd}{fr:List Nat}{fs:FileN}{m j:Nat}{b:Bnd}(h:∀k,k<m→∀d w,goN t fr fs k d (w.put j b)=mapW (·.put j b) (goN t fr fs k d w)):∀(ps:List Nat),(∀p ∈ ps,p<m)→∀d w,gosN t fr fs ps d (w.put j b)=mapW (·.put j b) (gosN t fr fs ps d w)
 | [],_,d,w=>rfl
 | p :: ps,hp,d,w=>by
   rw[gosN,gosN,h p (hp p List.mem_cons_self)];unfold mapW;rcases goN t fr fs p d w with e|w1
   ·rfl
   ·exact zl3 h ps (fun q hq=>hp q (List.mem_cons_of_mem _ hq)) d w1
theorem zvH {t:List Nd}{fr:List Nat}{fs:FileN}(hf:Formed t fr){j:Nat}{b:Bnd}:∀k,k<j→∀d w,goN t fr fs k d (w.put j b)=mapW (·.put j b) (goN t fr fs k d w):=by
 intro k
 induction k using Nat.strongRecOn with
 | ind k ih=>
   intro hk d w;have hps:∀p ∈ partsAt t fr k,p<k:=fun p hp=>hf.parts_lt hp
   have h1:=fun d w=>zl3 (t:=t) (fr:=fr) (fs:=fs) (m:=k) (j:=j) (b:=b) (fun q hq=>ih q hq (by omega)) (partsAt t fr k) hps d w
   have hc:∀(w:WayN) (c:Bnd),(w.put j b).put k c=(w.put k c).put j b:=fun w c=>by
    unfold WayN.put;simp only;rw[List.set_comm _ _ (by omega)]
   rw[zgf hf,zgf hf];have hfd:(w.put j b).found fs (t.getD k ndU0).text=w.found fs (t.getD k ndU0).text:=rfl;rw[hfd]
   split
   ·cases w.found fs (t.getD k ndU0).text with
    | none=>rfl
    | some c=>exact congrArg Sum.inr (hc w c)
   split
   ·have hs:(w.put j b).slot (zbf (t.getD k ndU0)) (t.getD k ndU0).at_ d=mapW (·.put j b) (w.slot (zbf (t.getD k ndU0)) (t.getD k ndU0).at_ d):=by
     unfold WayN.slot WayN.put mapW zcA;simp only
     split
     ·rfl
     split<;>rfl
    rw[hs];rcases w.slot (zbf (t.getD k ndU0)) (t.getD k ndU0).at_ d with e|w1
    ·rfl
    ·show zcA (gosN t fr fs (partsAt t fr k) d ((w1.put j b).put k ⟨3,(w.slots.length:Int),(t.getD k ndU0).type⟩)) _=_
     rw[hc,h1];show _=mapW _ (zcA (gosN t fr fs (partsAt t fr k) d (w1.put k ⟨3,(w.slots.length:Int),(t.getD k ndU0).type⟩)) _);rcases gosN t fr fs (partsAt t fr k) d (w1.put k ⟨3,(w.slots.length:Int),(t.getD k ndU0).type⟩) with e|w2
     ·rfl
     ·rfl
   split
   ·rw[h1]
    rcases gosN t fr fs (partsAt t fr k) (d+1) w with e|w2
    ·rfl
    ·rfl
   ·exact h1 d w
def InR (sl:List SlU):List ScN→List LocN→Prop
 | [],L=>L=[]
 | s :: up,L=>∃L2 L1,L=L2++L1∧s.ents=L1.reverse.map (fun l=>(l.1,locB sl l))∧(∀l ∈ L1,l.2.1<sl.length∧l.2.2=up.length+1)∧InR sl up L2
theorem zqk {sl:List SlU}{l:LocN}(h:l.2.1<sl.length)(ex:List SlU):locB (sl++ex) l=locB sl l:=by
 unfold locB;rw[zv2,zv2,List.getElem?_append_left h]
theorem InR.more {sl:List SlU}(ex:List SlU):∀{c:List ScN} {L:List LocN},InR sl c L→InR (sl++ex) c L
 | [],_,h=>h
 | s :: up,_,⟨L2,L1,e,h1,h2,h3⟩=>⟨L2,L1,e,by
    rw[h1];refine List.map_congr_left fun l hl=>?_
    rw[zqk (h2 l (List.mem_reverse.1 hl)).1],fun l hl=>⟨by rw[List.length_append];have:=(h2 l hl).1;omega,(h2 l hl).2⟩,InR.more ex h3⟩
theorem InR.depth {sl:List SlU}:∀{c:List ScN} {L:List LocN},InR sl c L→∀l ∈ L,l.2.2≤c.length
 | [],_,h,l,hl=>by rw[show _=[] from h]at hl;cases hl
 | s :: up,_,⟨L2,L1,e,h1,h2,h3⟩,l,hl=>by
   rw[e]at hl;rcases List.mem_append.1 hl with h|h
   ·have:=InR.depth h3 l h
    rw[List.length_cons];omega
   ·rw[(h2 l h).2];exact zv0 _
theorem zne {fs:FileN}{sl:List SlU}(n:ByteArray):∀{c:List ScN} {L:List LocN},InR sl c L→(match L.reverse.find? (fun l=>decide (l.1=n)) with
  | some l=>some (locB sl l)
  | none=>fs.look n)=zd9 fs c n
 | [],L,h=>by
   rw[show L=[] from h]
   rfl
 | s :: up,_,⟨L2,L1,e,h1,h2,h3⟩=>by
   rw[e,List.reverse_append,List.find?_append,zd9];have he:entB s.ents n=(L1.reverse.find? (fun l=>decide (l.1=n))).map (locB sl):=by
    unfold entB;rw[h1,List.find?_map,Option.map_map]
    rfl
   rw[he];have ih:=zne (fs:=fs) n h3;generalize List.find? _ L1.reverse=o1;cases o1 with
   | none=>exact ih
   | some l=>rfl
def TakenOk (s:ScN):Prop:=∀n,n ∈ s.taken↔n ∈ s.ents.map Prod.fst
theorem ztU {sl:List SlU}{s:ScN}{up:List ScN}{L:List LocN}(h:InR sl (s :: up) L)(ht:TakenOk s)(n:ByteArray):zdP L n (up.length+1)=(s.taken.any fun q=>decide (q=n)):=by
 obtain⟨L2,L1,e,h1,h2,h3⟩:=h;rw[Bool.eq_iff_iff];unfold zdP;rw[List.any_eq_true,List.any_eq_true];simp only[Bool.and_eq_true,decide_eq_true_eq,exists_eq_right];rw[ht n,h1,List.map_map,List.mem_map];constructor
 ·rintro⟨l,hl,h4,h5⟩
  rw[e]at hl;rcases List.mem_append.1 hl with h|h
  ·have:=h3.depth l h
   omega
  ·exact⟨l,List.mem_reverse.2 h,h4⟩
 ·rintro⟨l,hl,h4⟩
  have hl:=List.mem_reverse.1 hl;exact⟨l,by rw[e];exact List.mem_append_right _ hl,h4,(h2 l hl).2⟩
theorem InR.bind {sl:List SlU}{s:ScN}{up:List ScN}{L:List LocN}(h:InR sl (s :: up) L){l:LocN}(h1:l.2.1<sl.length)(h2:l.2.2=up.length+1):InR sl (s.bind l.1 (locB sl l) :: up) (L++[l]):=by
 obtain⟨L2,L1,e,g1,g2,g3⟩:=h;refine⟨L2,L1++[l],by rw[e,List.append_assoc],?_,fun q hq=>?_,g3⟩
 ·unfold ScN.bind
  simp[g1]
 ·rcases List.mem_append.1 hq with hq|hq
  ·exact g2 q hq
  ·rw[List.mem_singleton]at hq
   subst hq;exact⟨h1,h2⟩
theorem InR.enter {sl:List SlU}{c:List ScN}{L:List LocN}(h:InR sl c L):InR sl (ScN.new :: c) L:=⟨L,[],by simp,rfl,(fun l hl=>by cases hl),h⟩
theorem InR.take {sl:List SlU}{s:ScN}{up:List ScN}{L:List LocN}(h:InR sl (s :: up) L)(n:ByteArray):InR sl (s.take n :: up) L:=h
structure Agree (up:List ScN)(s:ScN)(r:ResN)(w:WayN):Prop where
 slots:w.slots=r.slots
 out:w.out=r.out
 ins:InR r.slots (s :: up) w.ins
 fault:r.fault=(0,0)
def zk6 (ex:Prop)(up:List ScN)(s:ScN)(r:ResN)(w:WayN)(a:(Int × Int) ⊕ WayN)(q:ResN × ScN):Prop:=match a with
 | .inl f=>f.2≠0∧q.1.fault=f
 | .inr w'=>Agree up q.2 q.1 w'∧(∃y,w'.ins=w.ins++y)∧(∃y,q.1.slots=r.slots++y)∧(ex→q.2=s)∧(TakenOk s→TakenOk q.2)
theorem zfN {t:List Nd}{fr:List Nat}{fs:FileN}(hf:Formed t fr){m:Nat}(h:∀p,p<m→∀up s r w,Agree up s r w→(exprK (kindAt t p)=true∨TakenOk s)→zk6 (exprK (kindAt t p)=true) up s r w (goN t fr fs p (up.length+1) w) (visitN t fr fs p up s false r)) :
 ∀(ps:List Nat),(∀p ∈ ps,p<m)→∀up s r w,Agree up s r w→((∀p ∈ ps,exprK (kindAt t p)=true)∨TakenOk s)→zk6 (∀p ∈ ps,exprK (kindAt t p)=true) up s r w (gosN t fr fs ps (up.length+1) w) (visitsN t fr fs ps up s r)
 | [],_,up,s,r,w,hA,hT=>⟨hA,⟨[],by simp⟩,⟨[],by simp[visitsN]⟩,fun _=>rfl,id⟩
 | p :: ps,hp,up,s,r,w,hA,hT=>by
   rw[gosN,visitsN];have h1:=h p (hp p List.mem_cons_self) up s r w hA (hT.imp (fun h=>h p List.mem_cons_self) id);generalize visitN t fr fs p up s false r=q at *;generalize goN t fr fs p (up.length+1) w=g1 at *;rcases g1 with f|w1
   ·obtain⟨h2,h3⟩:=h1
    refine⟨h2,?_⟩;rw[za9 hf _ _ _ (by rw[h3];exact h2)];exact h3
   ·obtain⟨a1,⟨y1,a2⟩,⟨z1,a3⟩,a4,a5⟩:=h1
    have h2:=zfN hf h ps (fun q hq=>hp q (List.mem_cons_of_mem _ hq)) up q.2 q.1 w1 a1 (hT.imp (fun h q hq=>h q (List.mem_cons_of_mem _ hq)) a5);show zk6 _ up s r w (gosN t fr fs ps (up.length+1) w1) _;generalize visitsN t fr fs ps up q.2 q.1=q2 at *;generalize gosN t fr fs ps (up.length+1) w1=g2 at *;rcases g2 with f|w2
    ·exact h2
    ·obtain⟨b1,⟨y2,b2⟩,⟨z2,b3⟩,b4,b5⟩:=h2
     refine⟨b1,⟨y1++y2,by rw[b2,a2,List.append_assoc]⟩,⟨z1++z2,by rw[b3,a3,List.append_assoc]⟩,fun he=>?_,fun ht=>b5 (a5 ht)⟩;rw[b4 fun q hq=>he q (List.mem_cons_of_mem _ hq),a4 (he p List.mem_cons_self)]
theorem zii {t:List Nd}{k:Int}:∀{l:List Nat} {i:Nat},zde t k i l=true→∀p ∈ l,∃j,mayN k j (kindAt t p)=true
 | [],_,_,p,hp=>by cases hp
 | q :: l,i,h,p,hp=>by
   rw[zde,Bool.and_eq_true]at h;rcases List.mem_cons.1 hp with rfl|hp
   ·exact⟨i,h.1⟩
   ·exact zii h.2 p hp
theorem zh7 {t:List Nd}{fr:List Nat}{k:Nat}(h:fitsN t fr k=true)(hk:exprK (kindAt t k)=true∨kindAt t k=22):∀p ∈ partsAt t fr k,exprK (kindAt t p)=true:=fun p hp=>by
 unfold fitsN at h;rw[Bool.and_eq_true]at h;obtain⟨j,hj⟩:=zii h.1 p hp;unfold mayN at hj;rw[if_pos (by rcases hk with h|h;exact .inl h;exact .inr (.inr (.inr h)))]at hj;exact hj
theorem zhd {t:List Nd}{k:Nat}(hk:k<t.length):kindAt t k=(t.getD k ndU0).kind:=by
 unfold kindAt;rw[zv2,zv1 hk]
 rfl
theorem zom {t:List Nd}{fr:List Nat}{k:Nat}(hk:k<t.length)(hw:∀x ∈ t,wellN x=true)(h3:(t.getD k ndU0).kind=3):partsAt t fr k=[]:=by
 have hx:t.getD k ndU0=t[k]:=by rw[zv2,zv1 hk];rfl
 have h1:=hw _ (zwb hk);rw[hx]at h3;unfold wellN zbu at h1;rw[Bool.and_eq_true,decide_eq_true_eq,h3]at h1;have h2:=h1.1;have ha:arityN 3=(0,0):=by decide
 rw[ha]at h2;have h0:t[k].n=0:=by omega
 rw[zan (zv1 hk),h0]
 rfl
theorem zjN {r:ResN}{s:ScN}{x:SlU}{a:Int}(h0:r.fault=(0,0))(ht:(s.taken.any fun q=>decide (q=x.name))=true):(zbt r s x a).fault=(a,6):=by
 unfold zbt slotW;simp only;have h1:(r.wrong a 6).fault=(a,6):=by unfold ResN.wrong;rw[if_pos (by rw[h0])]
 rw[if_pos ht]
 split
 ·unfold ResN.wrong
  rw[if_pos (show r.fault.2=0 by rw[h0]),if_neg (by show (6:Int)≠0;decide)]
 ·exact h1
theorem zhT {r:ResN}{s:ScN}{x:SlU}{a:Int}(h0:r.fault=(0,0))(ht:¬(s.taken.any fun q=>decide (q=x.name))=true)(hl:256≤r.slots.length):(zbt r s x a).fault=(a,3):=by
 unfold zbt slotW;simp only;rw[if_neg ht,if_pos hl];unfold ResN.wrong;rw[if_pos (by rw[h0])]
theorem zhU {r:ResN}{s:ScN}{x:SlU}{a:Int}(ht:¬(s.taken.any fun q=>decide (q=x.name))=true)(hl:¬256≤r.slots.length):zbt r s x a=⟨r.slots++[x],r.out,r.fault⟩:=by
 unfold zbt slotW;simp only;rw[if_neg ht,if_neg hl]
theorem TakenOk.bind {s:ScN}(h:TakenOk s)(n:ByteArray)(b:Bnd):TakenOk ((s.take n).bind n b):=fun m=>by
 unfold ScN.take ScN.bind;simp only[List.map_cons,List.mem_cons];rw[h m]
theorem zte {t:List Nd}{fr:List Nat}{fs:FileN}(hb:zah t=some fr)(hw:∀x ∈ t,wellN x=true)(hfit:∀k,k<t.length→fitsN t fr k=true):∀k,k<t.length→∀up s r w,Agree up s r w→(exprK (kindAt t k)=true∨TakenOk s)→zk6 (exprK (kindAt t k)=true) up s r w (goN t fr fs k (up.length+1) w) (visitN t fr fs k up s false r):=by
 have hf:=zar hb;intro k
 induction k using Nat.strongRecOn with
 | ind k ih=>
   intro hk up s r w hA hT;have hps:∀p ∈ partsAt t fr k,p<k:=fun p hp=>hf.parts_lt hp
   have hvs:=zfN (fs:=fs) hf (m:=k) (fun p hp up s r w=>ih p hp (by omega) up s r w) (partsAt t fr k) hps;have hr0:r.fault.2=0:=by rw[hA.fault]
   have hkk:=zhd hk;rw[zgf hf,zc9 hf,if_neg (show ¬r.fault.2≠0 by simp[hr0])];have hfd:w.found fs (t.getD k ndU0).text=zd9 fs (s :: up) (t.getD k ndU0).text:=by
    unfold WayN.found;rw[hA.slots];exact zne _ hA.ins
   by_cases k3:(t.getD k ndU0).kind=3
   ·have hno:zcb (t.getD k ndU0) false=false:=by unfold zcb;rw[k3];rfl
    rw[if_pos k3,if_neg (by omega),hno,if_neg (by decide),zom hk hw k3,visitsN,hfd];unfold zbZ;rw[if_pos k3];rcases zd9 fs (s :: up) (t.getD k ndU0).text with _|b
    ·refine⟨by show (130:Int)≠0;decide,?_⟩
     unfold ResN.put ResN.wrong;rw[if_pos hr0]
    ·refine⟨⟨hA.slots,?_,hA.ins,hA.fault⟩,⟨[],by simp[WayN.put]⟩,⟨[],by simp[ResN.put]⟩,fun _=>rfl,id⟩
     unfold WayN.put ResN.put;rw[hA.out]
   rw[if_neg k3]
   by_cases k22:(t.getD k ndU0).kind=22
   ·have hT:TakenOk s:=by
     rcases hT with h|h
     ·rw[hkk,k22]at h
      exact absurd h (by decide)
     ·exact h
    rw[if_pos k22,if_pos k22];simp only;have hpe:=zh7 (hfit k hk) (.inr (hkk.trans k22));have hany:=ztU hA.ins hT (t.getD k ndU0).text;generalize t.getD k ndU0=x at *;have hsl:w.slot (zbf x) x.at_ (up.length+1)=if (s.taken.any fun q=>decide (q=x.text))=true then .inl (x.at_,6) else if 256≤r.slots.length then .inl (x.at_,3) else .inr ⟨r.slots++[zbf x],r.out,w.ins⟩:=by
     unfold WayN.slot;rw[show (zbf x).name=x.text from rfl,hany,hA.slots,hA.out]
    rw[hsl]
    by_cases ht:(s.taken.any fun q=>decide (q=x.text))=true
    ·rw[if_pos ht]
     have h1:=zjN (r:=r) (s:=s) (x:=zbf x) (a:=x.at_) hA.fault ht;refine⟨by show (6:Int)≠0;decide,?_⟩;rw[za9 hf _ _ _ (by rw[h1];show (6:Int)≠0;decide)];exact h1
    rw[if_neg ht]
    by_cases hl:256≤r.slots.length
    ·rw[if_pos hl]
     have h1:=zhT (r:=r) (s:=s) (x:=zbf x) (a:=x.at_) hA.fault ht hl;refine⟨by show (3:Int)≠0;decide,?_⟩;rw[za9 hf _ _ _ (by rw[h1];show (3:Int)≠0;decide)];exact h1
    rw[if_neg hl,zhU ht hl];have hA1:Agree up (s.take x.text) ⟨r.slots++[zbf x],r.out,r.fault⟩ ⟨r.slots++[zbf x],r.out,w.ins⟩:=⟨rfl,rfl,(hA.ins.take _).more _,hA.fault⟩
    have h1:=hvs up (s.take x.text) _ _ hA1 (.inl hpe);show zk6 _ _ _ _ _ (zcA (gosN t fr fs (partsAt t fr k) (up.length+1) (WayN.put ⟨r.slots++[zbf x],r.out,w.ins⟩ k ⟨3,(w.slots.length:Int),x.type⟩)) _) _;rw[zl3 (m:=k) (fun q hq=>zvH hf q hq) _ hps];generalize visitsN t fr fs (partsAt t fr k) up (s.take x.text) ⟨r.slots++[zbf x],r.out,r.fault⟩=q at *;generalize gosN t fr fs (partsAt t fr k) (up.length+1) ⟨r.slots++[zbf x],r.out,w.ins⟩=g2 at *;rcases g2 with f|w2
    ·exact h1
    ·obtain⟨a1,⟨y1,a2⟩,⟨z1,a3⟩,a4,a5⟩:=h1
     have hq2:=a4 hpe;have hbn:zcs r (zbf x)=locB q.1.slots (x.text,r.slots.length,up.length+1):=by
      unfold zcs locB;simp only;rw[a3,List.append_assoc,zv2,List.getElem?_append_right (zv0 _)];simp
     show Agree up _ _ _∧_;refine⟨⟨?_,?_,?_,a1.fault⟩,⟨y1++[(x.text,r.slots.length,up.length+1)],?_⟩,⟨[zbf x]++z1,?_⟩,fun he=>?_,fun _=>?_⟩
     ·exact a1.slots
     ·show w2.out.set k _=q.1.out.set k _
      rw[a1.out,hA.slots]
      rfl
     ·show InR q.1.slots (q.2.bind x.text (zcs r (zbf x)) :: up) (w2.ins++[(x.text,w.slots.length,up.length+1)])
      rw[hbn,hA.slots];exact a1.ins.bind (l:=(x.text,r.slots.length,up.length+1)) (by rw[a3];simp) rfl
     ·show w2.ins++[(x.text,w.slots.length,up.length+1)]=_
      rw[a2,hA.slots,List.append_assoc]
     ·show q.1.slots=_
      rw[a3,List.append_assoc]
     ·rw[hkk,k22]at he
      exact absurd he (by decide)
     ·show TakenOk (q.2.bind x.text _)
      rw[hq2];exact hT.bind _ _
   rw[if_neg k22,if_neg k22];have hnm:zbZ fs (s :: up) (t.getD k ndU0) k r=r:=by unfold zbZ;rw[if_neg k3]
   rw[hnm]
   by_cases ko:(t.getD k ndU0).kind=21∨(t.getD k ndU0).kind=26
   ·have hop:zcb (t.getD k ndU0) false=true:=by
     unfold zcb;rcases ko with h|h<;>rw[h]<;>rfl
    rw[if_pos ko,if_pos hop];have hA1:Agree (s :: up) ScN.new r w:=⟨hA.slots,hA.out,hA.ins.enter,hA.fault⟩
    have h1:=hvs (s :: up) ScN.new r w hA1 (.inr (fun n=>by unfold ScN.new;simp));rw[List.length_cons]at h1;generalize visitsN t fr fs (partsAt t fr k) (s :: up) ScN.new r=q at *;generalize gosN t fr fs (partsAt t fr k) (up.length+1+1) w=g2 at *;rcases g2 with f|w2
    ·exact h1
    ·obtain⟨a1,⟨y1,a2⟩,⟨z1,a3⟩,_,_⟩:=h1
     have hcut:w2.ins.take w.ins.length=w.ins:=by rw[a2];simp
     refine⟨⟨a1.slots,a1.out,?_,a1.fault⟩,⟨[],?_⟩,⟨z1,a3⟩,fun _=>rfl,id⟩
     ·show InR q.1.slots (s :: up) (w2.ins.take w.ins.length)
      rw[hcut,a3];exact hA.ins.more _
     ·show w2.ins.take w.ins.length=_
      rw[hcut,List.append_nil]
   ·have hop:zcb (t.getD k ndU0) false=false:=by
     unfold zcb;rw[not_or]at ko;rw[decide_eq_false ko.1,decide_eq_false ko.2]
     rfl
    rw[if_neg ko,hop,if_neg (by decide)]
    by_cases he:exprK (kindAt t k)=true
    ·have hpe:=zh7 (hfit k hk) (.inl he)
     have h1:=hvs up s r w hA (.inl hpe);generalize visitsN t fr fs (partsAt t fr k) up s r=q at *;generalize gosN t fr fs (partsAt t fr k) (up.length+1) w=g2 at *;rcases g2 with f|w2
     ·exact h1
     ·obtain⟨a1,a2,a3,a4,a5⟩:=h1
      exact⟨a1,a2,a3,fun _=>a4 hpe,a5⟩
    ·have hT:TakenOk s:=hT.resolve_left he
     have h1:=hvs up s r w hA (.inr hT);generalize visitsN t fr fs (partsAt t fr k) up s r=q at *;generalize gosN t fr fs (partsAt t fr k) (up.length+1) w=g2 at *;rcases g2 with f|w2
     ·exact h1
     ·obtain⟨a1,a2,a3,a4,a5⟩:=h1
      exact⟨a1,a2,a3,fun h=>absurd h he,a5⟩
def parmsX:List VrU→Int→WayN→(Int × Int) ⊕ WayN
 | [],_,w=>.inr w
 | p :: ps,a,w=>zcA (w.slot (zbR p) a 1) fun w1=>parmsX ps a (w1.bind (p.name,w.slots.length,1))
def goneX (fs:FileN)(f:FnU):(Int × Int) ⊕ WayN:=zcA (parmsX f.params f.at_ ⟨[],List.replicate f.body.length bnd0,[]⟩) fun w=>goN f.body ((zah f.body).getD []) fs (f.body.length-1) 0 w
theorem zgY {r:ResN}(h:r.fault.2≠0):∀(ps:List VrU) (a:Int) (s:ScN),(parmsR ps a r s).1.fault=r.fault:=fun ps=>by
 induction ps generalizing r with
 | nil=>intro a s;rfl
 | cons p ps ih=>
   intro a s;rw[parmsR];have hw:∀c,(r.wrong a c)=r:=fun c=>by unfold ResN.wrong;rw[if_neg h]
   have e:(zbt r s ⟨p.name,p.type,p.vol,true⟩ a).fault=r.fault:=by
    unfold zbt slotW;simp only[hw]
    split<;>split<;>first|rfl|(rw[hw])
   rw[ih (by rw[e];exact h),e]
theorem zgZ:∀(ps:List VrU) (a:Int) (r:ResN) (s:ScN) (w:WayN),Agree [] s r w→TakenOk s→match parmsX ps a w with
  | .inl f=>f.2≠0∧(parmsR ps a r s).1.fault=f
  | .inr w'=>Agree [] (parmsR ps a r s).2 (parmsR ps a r s).1 w'∧TakenOk (parmsR ps a r s).2
 | [],_,_,_,_,hA,hT=>⟨hA,hT⟩
 | p :: ps,a,r,s,w,hA,hT=>by
   rw[parmsX,parmsR];have hany:=ztU hA.ins hT p.name;have hsl:w.slot (zbR p) a 1=if (s.taken.any fun q=>decide (q=p.name))=true then .inl (a,6) else if 256≤r.slots.length then .inl (a,3) else .inr ⟨r.slots++[zbR p],r.out,w.ins⟩:=by
    unfold WayN.slot;rw[show (zbR p).name=p.name from rfl,show zdP w.ins p.name 1=_ from hany,hA.slots,hA.out]
   rw[hsl];rw[show (⟨p.name,p.type,p.vol,true⟩:SlU)=zbR p from rfl]
   by_cases ht:(s.taken.any fun q=>decide (q=p.name))=true
   ·rw[if_pos ht]
    have h1:=zjN (r:=r) (s:=s) (x:=zbR p) (a:=a) hA.fault ht;refine⟨by show (6:Int)≠0;decide,?_⟩;rw[zgY (by rw[h1];show (6:Int)≠0;decide)];exact h1
   rw[if_neg ht]
   by_cases hl:256≤r.slots.length
   ·rw[if_pos hl]
    have h1:=zhT (r:=r) (s:=s) (x:=zbR p) (a:=a) hA.fault ht hl;refine⟨by show (3:Int)≠0;decide,?_⟩;rw[zgY (by rw[h1];show (3:Int)≠0;decide)];exact h1
   rw[if_neg hl,zhU ht hl];refine zgZ ps a _ _ _ ⟨rfl,rfl,?_,hA.fault⟩ (hT.bind _ _);have hbn:zcs r (zbR p)=locB (r.slots++[zbR p]) (p.name,r.slots.length,1):=by
    unfold zcs locB;simp
   show InR (r.slots++[zbR p]) ((s.take p.name).bind p.name (zcs r (zbR p)) :: []) (w.ins++[(p.name,w.slots.length,1)]);rw[hbn,hA.slots];exact InR.bind (l:=(p.name,r.slots.length,1)) ((hA.ins.take p.name).more [zbR p]) (by simp) rfl
theorem ztd (fs:FileN)(f:FnU)(hc:checkN9 f.body=0)(h21:kindAt f.body (f.body.length-1)=21):match goneX fs f with
  | .inl e=>e.2≠0∧(goneR fs f).fault=e
  | .inr w=>(goneR fs f).fault=(0,0)∧w.slots=(goneR fs f).slots∧w.out=(goneR fs f).out:=by
 obtain⟨_,hw,fr,hb,hfit,_⟩:=zer hc;have hf:=zar hb;have hlen:f.body.length-1<f.body.length:=by have:=hf.pos;omega
 unfold goneX goneR;rw[hb,Option.getD_some];have h1:=zgZ f.params f.at_ ⟨[],List.replicate f.body.length bnd0,(0,0)⟩ ScN.new ⟨[],List.replicate f.body.length bnd0,[]⟩ ⟨rfl,rfl,⟨[],[],rfl,rfl,(fun l hl=>by cases hl),rfl⟩,rfl⟩ (fun n=>by unfold ScN.new;simp);simp only;generalize parmsR f.params f.at_ ⟨[],List.replicate f.body.length bnd0,(0,0)⟩ ScN.new=q at *;generalize parmsX f.params f.at_ ⟨[],List.replicate f.body.length bnd0,[]⟩=g1 at *;rcases g1 with e|w1
 ·obtain⟨h2,h3⟩:=h1
  refine⟨h2,?_⟩;rw[zcO hf _ _ _ _ (by rw[h3];exact h2)];exact h3
 ·obtain⟨hA,hT⟩:=h1
  have hkk:=zhd hlen;rw[h21]at hkk;have hps:∀p ∈ partsAt f.body fr (f.body.length-1),p<f.body.length-1:=fun p hp=>hf.parts_lt hp
  have h2:=zfN (fs:=fs) hf (m:=f.body.length-1) (fun p hp up s r w=>zte hb hw hfit p (by omega) up s r w) _ hps [] q.2 q.1 w1 hA (.inr hT);show match goN f.body fr fs (f.body.length-1) 0 w1 with
   | .inl e=>_
   | .inr w=>_
  rw[zgf hf,if_neg (by omega),if_neg (by omega),if_pos (.inl hkk.symm),zc9 hf,if_neg (by rw[hA.fault];decide),if_neg (by omega)];have hop:zcb (f.body.getD (f.body.length-1) ndU0) true=false:=by unfold zcb;rw[← hkk];rfl
  have hnm:zbZ fs (q.2 :: []) (f.body.getD (f.body.length-1) ndU0) (f.body.length-1) q.1=q.1:=by unfold zbZ;rw[if_neg (by omega)]
  rw[hop,if_neg (by decide),hnm];simp only[List.length_nil,Nat.zero_add]at h2;generalize visitsN f.body fr fs (partsAt f.body fr (f.body.length-1)) [] q.2 q.1=q2 at *;generalize gosN f.body fr fs (partsAt f.body fr (f.body.length-1)) 1 w1=g2 at *;rcases g2 with e|w2
  ·exact h2
  ·obtain⟨a1,_⟩:=h2
   exact⟨a1.fault,a1.slots,a1.out⟩
structure GoOk (w w':WayN):Prop where
 slots:w.slots.length≤w'.slots.length
 ins:w.ins.length≤w'.ins.length
 both:w'.ins.length+w.slots.length≤w.ins.length+w'.slots.length
 out:w'.out.length=w.out.length
 small:w.slots.length≤256→w'.slots.length≤256
theorem GoOk.refl (w:WayN):GoOk w w:=⟨zv0 _,zv0 _,zv0 _,rfl,id⟩
theorem GoOk.trans {w w1 w2:WayN}(h:GoOk w w1)(g:GoOk w1 w2):GoOk w w2:=by
 have a1:=h.slots;have a2:=h.ins;have a3:=h.both;have b1:=g.slots;have b2:=g.ins;have b3:=g.both;exact⟨by omega,by omega,by omega,g.out.trans h.out,fun h0=>g.small (h.small h0)⟩
theorem zda {α β:Type}{q:(Int × Int) ⊕ α}{f:α→(Int × Int) ⊕ β}{b:β}(h:zcA q f=.inr b):∃a,q=.inr a∧f a=.inr b:=by
 cases q with
 | inl e=>cases h
 | inr a=>exact⟨a,rfl,h⟩
theorem zgq {w w':WayN}{x:SlU}{a:Int}{d:Nat}(h:w.slot x a d=.inr w'):w'=⟨w.slots++[x],w.out,w.ins⟩∧w.slots.length<256:=by
 unfold WayN.slot at h
 split at h
 ·cases h
 split at h
 ·cases h
 ·rename_i h1
  cases h;exact⟨rfl,by omega⟩
theorem zna {t:List Nd}{fr:List Nat}{fs:FileN}{m:Nat}(h:∀p,p<m→∀d w w',goN t fr fs p d w=.inr w'→GoOk w w'):∀(ps:List Nat),(∀p ∈ ps,p<m)→∀d w w',gosN t fr fs ps d w=.inr w'→GoOk w w'
 | [],_,d,w,w',e=>by
   rw[gosN]at e;cases e;exact GoOk.refl _
 | p :: ps,hp,d,w,w',e=>by
   rw[gosN]at e;obtain⟨w1,h1,h2⟩:=zda e;exact(h p (hp p List.mem_cons_self) d w w1 h1).trans (zna h ps (fun q hq=>hp q (List.mem_cons_of_mem _ hq)) d w1 w' h2)
theorem zqJ {t:List Nd}{fr:List Nat}{fs:FileN}(hf:Formed t fr):∀k d w w',goN t fr fs k d w=.inr w'→GoOk w w':=by
 intro k
 induction k using Nat.strongRecOn with
 | ind k ih=>
   intro d w w' e;have hps:∀p ∈ partsAt t fr k,p<k:=fun p hp=>hf.parts_lt hp
   have hg:=zna (t:=t) (fr:=fr) (fs:=fs) (m:=k) (fun q hq=>ih q hq) (partsAt t fr k) hps;rw[zgf hf]at e
   split at e
   ·split at e
    ·cases e
     exact⟨zv0 _,zv0 _,zv0 _,by unfold WayN.put;simp,id⟩
    ·cases e
   split at e
   ·obtain⟨w1,h1,e⟩:=zda e
    obtain⟨w2,h2,e⟩:=zda e;cases e;obtain⟨rfl,hl⟩:=zgq h1;have h3:=hg _ _ _ h2;have a1:=h3.slots;have a2:=h3.ins;have a3:=h3.both;have a4:=h3.out;have a5:=h3.small;unfold WayN.put at a1 a2 a3 a4 a5;simp only[List.length_append,List.length_cons,List.length_nil,List.length_set]at a1 a2 a3 a4 a5;refine⟨?_,?_,?_,a4,fun _=>a5 (by omega)⟩
    ·show _≤w2.slots.length
     omega
    ·show _≤(w2.ins++[_]).length
     simp;omega
    ·show (w2.ins++[_]).length+_≤_+w2.slots.length
     simp;omega
   split at e
   ·obtain⟨w2,h2,e⟩:=zda e
    cases e;have h3:=hg _ _ _ h2;have a1:=h3.slots;have a2:=h3.ins;have hl:(w2.ins.take w.ins.length).length=w.ins.length:=List.length_take_of_le a2;refine⟨a1,?_,?_,h3.out,h3.small⟩
    ·show _≤(w2.ins.take w.ins.length).length
     omega
    ·show (w2.ins.take w.ins.length).length+_≤_+w2.slots.length
     omega
   ·exact hg _ _ _ e
theorem zfO {t:List Nd}{fr:List Nat}{fs:FileN}:∀(ps qs:List Nat) (d:Nat) (w:WayN),gosN t fr fs (ps++qs) d w=zcA (gosN t fr fs ps d w) fun w1=>gosN t fr fs qs d w1
 | [],qs,d,w=>rfl
 | p :: ps,qs,d,w=>by
   rw[List.cons_append,gosN,gosN];cases goN t fr fs p d w with
   | inl e=>rfl
   | inr w1=>exact zfO ps qs d w1
theorem zgv {t:List Nd}{fr:List Nat}{fs:FileN}{ps:List Nat}{d i:Nat}{w w1:WayN}(h:gosN t fr fs (ps.take i) d w=.inr w1)(hi:i<ps.length):gosN t fr fs (ps.take (i+1)) d w=goN t fr fs ps[i] d w1:=by
 rw[List.take_succ_eq_append_getElem hi,zfO,h];show zcA (goN t fr fs ps[i] d w1) (fun w1=>.inr w1)=_;cases goN t fr fs ps[i] d w1<;>rfl
theorem zi9 {t:List Nd}{fr:List Nat}{fs:FileN}{ps:List Nat}{d i:Nat}{w w1:WayN}{f:Int × Int}(h:gosN t fr fs (ps.take i) d w=.inr w1)(hi:i<ps.length)(e:goN t fr fs ps[i] d w1=.inl f):gosN t fr fs ps d w=.inl f:=by
 have h1:=(zgv h hi).trans e;rw[← List.take_append_drop (i+1) ps,zfO,h1]
 rfl
end Go.Proofs.YtbbaooeioogijaaGreatDoor
