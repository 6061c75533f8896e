/- What the names of a file stand for -/
import Derived.Test.YtbbaooeioogijaaGreatDoorMg10
namespace Go.Proofs.YtbbaooeioogijaaGreatDoor
def builtL:List (ByteArray × ByteArray):=[(⟨#[103,101,116,99,104,97,114]⟩,⟨#[102,40,41,105]⟩),(⟨#[112,117,116,99,104,97,114]⟩,⟨#[102,40,105,41,105]⟩),(⟨#[101,120,105,116]⟩,⟨#[102,40,105,41,118]⟩),(⟨#[115,101,116,106,109,112]⟩,⟨#[102,40,112,106,41,105]⟩),(⟨#[108,111,110,103,106,109,112]⟩,⟨#[102,40,112,106,44,105,41,118]⟩),(⟨#[99,111,95,110,101,119]⟩,⟨#[102,40,112,102,40,105,41,105,44,105,44,105,41,105]⟩),(⟨#[99,111,95,114,101,115,117,109,101]⟩,⟨#[102,40,105,44,105,41,105]⟩),(⟨#[99,111,95,121,105,101,108,100]⟩,⟨#[102,40,105,41,105]⟩),(⟨#[99,111,95,100,111,110,101]⟩,⟨#[102,40,105,41,105]⟩),(⟨#[99,111,95,102,114,101,101]⟩,⟨#[102,40,105,41,118]⟩)]
def entB (L:List (ByteArray × Bnd))(n:ByteArray):Option Bnd:=(L.find? fun q=>decide (q.1=n)).map Prod.snd
def bltE:List (ByteArray × Bnd):=(List.range 10).map fun i=>((builtL.getD i (⟨#[]⟩,⟨#[]⟩)).1,⟨4,(i:Int),(builtL.getD i (⟨#[]⟩,⟨#[]⟩)).2⟩)
structure FileN where
 ents:List (ByteArray × Bnd)
 funcs:List FnU
def FileN.look (s:FileN)(n:ByteArray):Option Bnd:=match entB s.ents n with
 | some b=>some b
 | none=>entB bltE n
def FileN.put (s:FileN)(n:ByteArray)(b:Bnd):FileN:=⟨s.ents++[(n,b)],s.funcs⟩
def fnU0:FnU:=⟨0,⟨#[]⟩,⟨#[]⟩,[],[]⟩
def zaY:List GlU→Nat→FileN→(Int × Int) ⊕ FileN
 | [],_,s=>.inr s
 | g :: r,i,s=>match s.look g.var.name with
   | some _=>.inl (g.at_,6)
   | none=>zaY r (i+1) (s.put g.var.name ⟨1,(i:Int),g.var.type⟩)
def oneF (s:FileN)(x:FnU):Int ⊕ FileN:=match s.look x.name with
 | some b=>
   if b.kind≠2 then .inl 6
   else if x.body≠[]∧(s.funcs.getD b.idx.toNat fnU0).body≠[] then .inl 6
   else if (s.funcs.getD b.idx.toNat fnU0).type≠x.type then .inl 131
   else if x.body≠[] then .inr ⟨s.ents,s.funcs.set b.idx.toNat x⟩ else .inr s
 | none=>if 128≤s.funcs.length then .inl 3 else .inr ⟨s.ents++[(x.name,⟨2,(s.funcs.length:Int),x.type⟩)],s.funcs++[x]⟩
def zaP:List FnU→FileN→(Int × Int) ⊕ FileN
 | [],s=>.inr s
 | x :: r,s=>match oneF s x with
   | .inl c=>.inl (x.at_,c)
   | .inr s'=>zaP r s'
def za1 (u:UnU):(Int × Int) ⊕ FileN:=if (unitE u).2≠0 then .inl (unitE u) else match zaY u.globals 0 ⟨[],[]⟩ with
 | .inl f=>.inl f
 | .inr s=>zaP u.funcs s
theorem zcJ (L:List (ByteArray × Bnd))(n:ByteArray)(b:Bnd)(t:ByteArray):entB (L++[(n,b)]) t=match entB L t with
 | some c=>some c
 | none=>if t=n then some b else none:=by
 unfold entB;rw[List.find?_append];rcases h:L.find? (fun q=>decide (q.1=t)) with _|c
 ·rw[h,Option.none_or,Option.map_none,List.find?_cons]
  by_cases e:t=n
  ·subst e;simp
  ·have e':¬n=t:=fun h=>e h.symm
   simp[e,e']
 ·rw[h,Option.some_or,Option.map_some]
theorem zm3 {s:FileN}{n:ByteArray}(h:s.look n=none)(b:Bnd)(t:ByteArray):(s.put n b).look t=if t=n then some b else s.look t:=by
 unfold FileN.look FileN.put at *;simp only;rw[zcJ];rcases e:entB s.ents t with _|c
 ·simp only
  by_cases ht:t=n
  ·rw[if_pos ht,if_pos ht]
  ·rw[if_neg ht,if_neg ht]
 ·simp only
  by_cases ht:t=n
  ·subst ht
   rw[e]at h;cases h
  ·rw[if_neg ht]
structure FileOk (s:FileN):Prop where
 kinds:∀n b,entB s.ents n=some b→(b.kind=1∨b.kind=2)∧(b.kind=2→0≤b.idx∧b.idx.toNat<s.funcs.length∧(s.funcs.getD b.idx.toNat fnU0).name=n)
 has:∀i,i<s.funcs.length→entB s.ents (s.funcs.getD i fnU0).name=some ⟨2,(i:Int),(s.funcs.getD i fnU0).type⟩
theorem zfl {n:ByteArray}{b:Bnd}(h:entB bltE n=some b):b.kind=4:=by
 unfold entB at h;simp only[Option.map_eq_some_iff]at h;obtain⟨q,hq,rfl⟩:=h;have:=List.mem_of_find?_eq_some hq;unfold bltE at this;obtain⟨i,_,rfl⟩:=List.mem_map.1 this
 rfl
theorem zek {s:FileN}{n:ByteArray}{b:Bnd}(h:entB s.ents n=some b):s.look n=some b:=by
 unfold FileN.look;rw[h]
theorem zkp {s:FileN}{n:ByteArray}(h:s.look n=none):entB s.ents n=none:=by
 rcases e:entB s.ents n with _|c
 ·rfl
 ·rw[zek e]at h;cases h
theorem FileOk.func {s:FileN}(h:FileOk s){n:ByteArray}{b:Bnd}(hb:s.look n=some b)(hk:b.kind=2):0≤b.idx∧b.idx.toNat<s.funcs.length∧(s.funcs.getD b.idx.toNat fnU0).name=n:=by
 unfold FileN.look at hb;rcases e:entB s.ents n with _|c
 ·rw[e]at hb
  have:=zfl hb;omega
 ·rw[e]at hb
  obtain rfl:=zv4 hb;exact(h.kinds n c e).2 hk
theorem FileOk.uniq {s:FileN}(h:FileOk s){i j:Nat}(hi:i<s.funcs.length)(hj:j<s.funcs.length)(e:(s.funcs.getD i fnU0).name=(s.funcs.getD j fnU0).name):i=j:=by
 have h1:=h.has i hi;have h2:=h.has j hj;rw[e,h2]at h1;have h3:=congrArg Bnd.idx (zv4 h1);simp only at h3;omega
theorem zen:FileOk ⟨[],[]⟩:=⟨(fun n b h=>by cases h),(fun i h=>by simp at h)⟩
theorem FileOk.glob {s:FileN}(h:FileOk s){n:ByteArray}(_hn:s.look n=none)(i:Int)(t:ByteArray):FileOk (s.put n ⟨1,i,t⟩):=⟨fun m b hb=>by
 unfold FileN.put at hb;simp only at hb;rw[zcJ]at hb;rcases e:entB s.ents m with _|c
 ·rw[e]at hb
  simp only at hb
  split at hb
  ·obtain rfl:=zv4 hb
   exact⟨.inl rfl,fun h=>by cases h⟩
  ·cases hb
 ·rw[e]at hb
  obtain rfl:=zv4 hb;exact h.kinds m c e,fun j hj=>by
 unfold FileN.put;simp only
 rw[zcJ,h.has j hj]⟩
theorem FileOk.new {s:FileN}(h:FileOk s){x:FnU}(hn:s.look x.name=none):FileOk ⟨s.ents++[(x.name,⟨2,(s.funcs.length:Int),x.type⟩)],s.funcs++[x]⟩:=⟨fun m b hb=>by
 simp only at hb ⊢;rw[zcJ]at hb;rcases e:entB s.ents m with _|c
 ·rw[e]at hb
  simp only at hb
  split at hb
  ·rename_i hm
   obtain rfl:=zv4 hb;refine⟨.inr rfl,fun _=>⟨by simp,by simp,?_⟩⟩;simp[hm]
  ·cases hb
 ·rw[e]at hb
  obtain rfl:=zv4 hb;obtain⟨h1,h2⟩:=h.kinds m c e;refine⟨h1,fun hk=>?_⟩;obtain⟨a1,a2,a3⟩:=h2 hk;refine⟨a1,by rw[List.length_append];omega,?_⟩;rw[← a3,zv2,zv2,List.getElem?_append_left a2],fun j hj=>by
 simp only at hj ⊢;rw[List.length_append,List.length_cons,List.length_nil]at hj;rw[zcJ];rcases Nat.lt_or_ge j s.funcs.length with h'|h'
 ·have e:(s.funcs++[x]).getD j fnU0=s.funcs.getD j fnU0:=by rw[zv2,zv2,List.getElem?_append_left h']
  rw[e,h.has j h']
 ·obtain rfl:j=s.funcs.length:=by omega
  have e:(s.funcs++[x]).getD s.funcs.length fnU0=x:=by simp
  rw[e,zkp hn]
  simp⟩
theorem FileOk.set {s:FileN}(h:FileOk s){x:FnU}{i:Nat}(hx:(s.funcs.getD i fnU0).name=x.name)(ht:(s.funcs.getD i fnU0).type=x.type):FileOk ⟨s.ents,s.funcs.set i x⟩:=by
 have key:∀j,j<s.funcs.length→((s.funcs.set i x).getD j fnU0).name=(s.funcs.getD j fnU0).name∧((s.funcs.set i x).getD j fnU0).type=(s.funcs.getD j fnU0).type:=fun j hj=>by
  by_cases e:i=j
  ·subst e
   have e2:(s.funcs.set i x).getD i fnU0=x:=by rw[zv2,List.getElem?_set_self hj];rfl
   rw[e2];exact⟨hx.symm,ht.symm⟩
  ·rw[zv2,List.getElem?_set_ne e,← zv2]
   exact⟨rfl,rfl⟩
 refine⟨fun m b hb=>?_,fun j hj=>?_⟩
 ·obtain⟨h1,h2⟩:=h.kinds m b hb
  refine⟨h1,fun hk=>?_⟩;obtain⟨a1,a2,a3⟩:=h2 hk;exact⟨a1,by simpa using a2,by rw[← a3];exact(key _ a2).1⟩
 ·have hj':j<s.funcs.length:=by simpa using hj
  obtain⟨k1,k2⟩:=key j hj';simp only;rw[k1,k2];exact h.has j hj'
theorem zlJ {s s':FileN}{x:FnU}(h:FileOk s)(e:oneF s x=.inr s'):FileOk s'∧∀y ∈ s'.funcs,y ∈ s.funcs∨y=x:=by
 unfold oneF at e;rcases hl:s.look x.name with _|b
 ·rw[hl]at e
  simp only at e
  split at e
  ·cases e
  ·obtain rfl:=Sum.inr.inj e
   exact⟨h.new hl,fun y hy=>by simpa using hy⟩
 ·rw[hl]at e
  simp only at e
  split at e
  ·cases e
  rename_i hk
  have hk:b.kind=2:=by simpa using hk
  split at e
  ·cases e
  split at e
  ·cases e
  rename_i ht
  have ht:(s.funcs.getD b.idx.toNat fnU0).type=x.type:=by simpa using ht
  split at e
  ·obtain rfl:=Sum.inr.inj e
   exact⟨h.set (h.func hl hk).2.2 ht,fun y hy=>by rcases List.mem_or_eq_of_mem_set hy with h|h;exact .inl h;exact .inr h⟩
  ·obtain rfl:=Sum.inr.inj e
   exact⟨h,fun y hy=>.inl hy⟩
theorem zkI:∀{L:List FnU} {s s':FileN},FileOk s→zaP L s=.inr s'→FileOk s'∧∀y ∈ s'.funcs,y ∈ s.funcs∨y ∈ L
 | [],s,s',h,e=>by
   rw[zaP]at e;obtain rfl:=Sum.inr.inj e;exact⟨h,fun y hy=>.inl hy⟩
 | x :: r,s,s',h,e=>by
   rw[zaP]at e;rcases hx:oneF s x with c|s1
   ·rw[hx]at e;cases e
   ·rw[hx]at e
    obtain⟨h1,h2⟩:=zlJ h hx;obtain⟨h3,h4⟩:=zkI h1 e;refine⟨h3,fun y hy=>?_⟩;rcases h4 y hy with hy|hy
    ·rcases h2 y hy with hy|rfl
     ·exact .inl hy
     ·exact .inr List.mem_cons_self
    ·exact .inr (List.mem_cons_of_mem _ hy)
theorem zfi:∀{L:List GlU} {i:Nat} {s s':FileN},FileOk s→zaY L i s=.inr s'→FileOk s'∧s'.funcs=s.funcs
 | [],i,s,s',h,e=>by
   rw[zaY]at e;obtain rfl:=Sum.inr.inj e;exact⟨h,rfl⟩
 | g :: r,i,s,s',h,e=>by
   rw[zaY]at e;rcases hl:s.look g.var.name with _|b
   ·rw[hl]at e
    obtain⟨h1,h2⟩:=zfi (h.glob hl _ _) e;exact⟨h1,h2⟩
   ·rw[hl]at e;cases e
def ndU0:Nd:=⟨0,0,0,0,⟨#[]⟩,⟨#[]⟩⟩
structure SlU where
 name:ByteArray
 type:ByteArray
 vol:Bool
 param:Bool
structure ScN where
 ents:List (ByteArray × Bnd)
 taken:List ByteArray
structure ResN where
 slots:List SlU
 out:List Bnd
 fault:Int × Int
def ScN.new:ScN:=⟨[],[]⟩
def ResN.wrong (r:ResN)(at_ c:Int):ResN:=if r.fault.2=0 then ⟨r.slots,r.out,(at_,c)⟩ else r
def ResN.put (r:ResN)(k:Nat)(b:Bnd):ResN:=⟨r.slots,r.out.set k b,r.fault⟩
def zd9 (fs:FileN):List ScN→ByteArray→Option Bnd
 | [],n=>fs.look n
 | s :: up,n=>match entB s.ents n with
   | some b=>some b
   | none=>zd9 fs up n
def slotW (r:ResN)(s:ScN)(n:ByteArray)(at_:Int):ResN:=
 let r1:=if (s.taken.any fun q=>decide (q=n))=true then r.wrong at_ 6 else r
 if 256≤r1.slots.length then r1.wrong at_ 3 else r1
def zbt (r:ResN)(s:ScN)(x:SlU)(at_:Int):ResN:=⟨(slotW r s x.name at_).slots++[x],(slotW r s x.name at_).out,(slotW r s x.name at_).fault⟩
def zcs (r:ResN)(x:SlU):Bnd:=⟨3,(r.slots.length:Int),x.type⟩
def ScN.take (s:ScN)(n:ByteArray):ScN:=⟨s.ents,n :: s.taken⟩
def ScN.bind (s:ScN)(n:ByteArray)(b:Bnd):ScN:=⟨(n,b) :: s.ents,s.taken⟩
theorem zbC (r:ResN)(a c:Int):(r.wrong a c).slots=r.slots∧(r.wrong a c).out=r.out:=by
 unfold ResN.wrong
 split<;>exact⟨rfl,rfl⟩
theorem zeF (r:ResN)(s:ScN)(n:ByteArray)(a:Int):(slotW r s n a).slots=r.slots∧(slotW r s n a).out=r.out:=by
 unfold slotW;simp only
 split<;>split<;>simp[zbC]
def zbf (x:Nd):SlU:=⟨x.text,x.type,decide (x.int=1),false⟩
def zbZ (fs:FileN)(c:List ScN)(x:Nd)(k:Nat)(r:ResN):ResN:=if x.kind=3 then (match zd9 fs c x.text with
 | some b=>r.put k b
 | none=>(r.wrong x.at_ 130).put k bnd0) else r
def zcb (x:Nd)(own:Bool):Bool:=(decide (x.kind=21) && !own) || decide (x.kind=26)
mutual
def zdH (t:List Nd)(fr:List Nat)(fs:FileN):Nat→Nat→List ScN→ScN→Bool→ResN→ResN × ScN
 | 0,_,_,s,_,r=>(r,s)
 | m+1,k,up,s,own,r=>
   if r.fault.2≠0 then (r,s)
   else if (t.getD k ndU0).kind=22 then
    let q:=visitsF t fr fs m (partsAt t fr k) up (s.take (t.getD k ndU0).text) (zbt r s (zbf (t.getD k ndU0)) (t.getD k ndU0).at_)
    (q.1.put k (zcs r (zbf (t.getD k ndU0))),q.2.bind (t.getD k ndU0).text (zcs r (zbf (t.getD k ndU0))))
   else if zcb (t.getD k ndU0) own then ((visitsF t fr fs m (partsAt t fr k) (s :: up) ScN.new (zbZ fs (s :: up) (t.getD k ndU0) k r)).1,s)
   else visitsF t fr fs m (partsAt t fr k) up s (zbZ fs (s :: up) (t.getD k ndU0) k r)
def visitsF (t:List Nd)(fr:List Nat)(fs:FileN):Nat→List Nat→List ScN→ScN→ResN→ResN × ScN
 | _,[],_,s,r=>(r,s)
 | m,p :: ps,up,s,r=>visitsF t fr fs m ps up (zdH t fr fs m p up s false r).2 (zdH t fr fs m p up s false r).1
end
def visitN (t:List Nd)(fr:List Nat)(fs:FileN)(k:Nat)(up:List ScN)(s:ScN)(own:Bool)(r:ResN):ResN × ScN:=zdH t fr fs (k+1) k up s own r
def visitsN (t:List Nd)(fr:List Nat)(fs:FileN):List Nat→List ScN→ScN→ResN→ResN × ScN
 | [],_,s,r=>(r,s)
 | p :: ps,up,s,r=>visitsN t fr fs ps up (visitN t fr fs p up s false r).2 (visitN t fr fs p up s false r).1
theorem ze0 {t:List Nd}{fr:List Nat}{fs:FileN}{m:Nat}(h:∀k,k<m→∀up s own r,zdH t fr fs m k up s own r=visitN t fr fs k up s own r):∀(ps:List Nat),(∀p ∈ ps,p<m)→∀up s r,visitsF t fr fs m ps up s r=visitsN t fr fs ps up s r
 | [],_,up,s,r=>by rw[visitsF,visitsN]
 | p :: ps,hp,up,s,r=>by
   rw[visitsF,visitsN,h p (hp p List.mem_cons_self),ze0 h ps fun q hq=>hp q (List.mem_cons_of_mem _ hq)]
theorem znD {t:List Nd}{fr:List Nat}{fs:FileN}(hf:Formed t fr):∀(m k:Nat),k<m→∀up s own r,zdH t fr fs m k up s own r=visitN t fr fs k up s own r:=by
 intro m
 induction m using Nat.strongRecOn with
 | ind m ih=>
   intro k hk up s own r;cases m with
   | zero=>omega
   | succ m=>
     unfold visitN;have hps:∀p ∈ partsAt t fr k,p<k:=fun p hp=>hf.parts_lt hp
     have h1:=fun up s r=>ze0 (t:=t) (fr:=fr) (fs:=fs) (m:=m) (fun q hq=>ih m (by omega) q hq) (partsAt t fr k) (fun p hp=>by have:=hps p hp;omega) up s r
     have h2:=fun up s r=>ze0 (t:=t) (fr:=fr) (fs:=fs) (m:=k) (fun q hq=>ih k (by omega) q hq) (partsAt t fr k) hps up s r
     rw[zdH,zdH];simp only[h1,h2]
theorem zc9 {t:List Nd}{fr:List Nat}{fs:FileN}(hf:Formed t fr)(k:Nat)(up:List ScN)(s:ScN)(own:Bool)(r:ResN):visitN t fr fs k up s own r =
 if r.fault.2≠0 then (r,s)
 else if (t.getD k ndU0).kind=22 then
  let q:=visitsN t fr fs (partsAt t fr k) up (s.take (t.getD k ndU0).text) (zbt r s (zbf (t.getD k ndU0)) (t.getD k ndU0).at_)
  (q.1.put k (zcs r (zbf (t.getD k ndU0))),q.2.bind (t.getD k ndU0).text (zcs r (zbf (t.getD k ndU0))))
 else if zcb (t.getD k ndU0) own then ((visitsN t fr fs (partsAt t fr k) (s :: up) ScN.new (zbZ fs (s :: up) (t.getD k ndU0) k r)).1,s)
 else visitsN t fr fs (partsAt t fr k) up s (zbZ fs (s :: up) (t.getD k ndU0) k r):=by
 have hps:∀p ∈ partsAt t fr k,p<k:=fun p hp=>hf.parts_lt hp
 have h2:=fun up s r=>ze0 (t:=t) (fr:=fr) (fs:=fs) (m:=k) (fun q hq=>znD hf k q hq) (partsAt t fr k) hps up s r
 rw[visitN,zdH];simp only[h2]
def parmsR:List VrU→Int→ResN→ScN→ResN × ScN
 | [],_,r,s=>(r,s)
 | p :: ps,at_,r,s=>parmsR ps at_ (zbt r s ⟨p.name,p.type,p.vol,true⟩ at_) ((s.take p.name).bind p.name (zcs r ⟨p.name,p.type,p.vol,true⟩))
def goneR (fs:FileN)(f:FnU):ResN:=
 let q:=parmsR f.params f.at_ ⟨[],List.replicate f.body.length bnd0,(0,0)⟩ ScN.new
 (visitN f.body ((zah f.body).getD []) fs (f.body.length-1) [] q.2 true q.1).1
def zbn (fs:FileN)(n:ByteArray):Option FnU:=match fs.look n with
 | none=>none
 | some b=>if b.kind≠2∨(fs.funcs.getD b.idx.toNat fnU0).body=[] then none else some (fs.funcs.getD b.idx.toNat fnU0)
def zat (u:UnU)(n:ByteArray):(Int × Int) ⊕ (ResN × FnU × FileN):=match za1 u with
 | .inl f=>.inl f
 | .inr fs=>match zbn fs n with
   | none=>.inl (0,4)
   | some f=>if (goneR fs f).fault.2≠0 then .inl (goneR fs f).fault else .inr (goneR fs f,f,fs)
def zbx (fr:List Nat):Nat→Nat→Nat
 | 0,e=>e
 | n+1,e=>zbx fr n (fr.getD (e-1) 0)
theorem Ends.start {fr:List Nat}:∀{st:List Nat} {e n:Nat},Ends fr st e→n≤st.length→zbx fr n e=if 0<n then st.getD (n-1) 0 else e
 | _,_,0,_,_=>rfl
 | [],_,n+1,_,h=>by simp at h
 | s :: st,e,n+1,⟨_,h2,h3⟩,h=>by
   rw[zbx,h2,Ends.start h3 (by simpa using h),if_pos (Nat.succ_pos n)];cases n with
   | zero=>rfl
   | succ n=>rw[if_pos (Nat.succ_pos n),Nat.add_sub_cancel,Nat.add_sub_cancel];rfl
theorem zgj:∀(l:List Nd) (pre:List Nat) (st:List Nat) {f st':List Nat},zaB l pre.length st=some (f,st')→Ends pre st pre.length →
 ∀(j:Nat) x,l[j]?=some x→zbx (pre++f) x.n.toNat (pre.length+j)=(pre++f).getD (pre.length+j) 0
 | [],_,_,_,_,_,_=>fun j x hx=>by simp at hx
 | x :: l,pre,st,f,st',h,he=>by
   have hfull:=zdG (x :: l) pre st h he;rw[zaB]at h
   split at h
   ·cases h
   ·rename_i hn
    simp only[Option.map_eq_some_iff]at h;obtain⟨⟨g,st2⟩,hg,e⟩:=h;obtain⟨rfl,rfl⟩:=Prod.mk.inj e;simp only at hg ⊢;generalize ha:(if 0<x.n then st.getD (x.n.toNat-1) 0 else pre.length)=a at *;have hle:x.n.toNat≤st.length:=by omega
    have ha1:a≤pre.length:=by
     rw[← ha]
     split
     ·exact zv7 (he.lt _ (by omega))
     ·exact zv0 _
    have he2:Ends (pre++[a]) (a :: st.drop x.n.toNat) (pre++[a]).length:=by
     refine⟨by simp;omega,by simp,?_⟩
     by_cases h0:0<x.n
     ·rw[if_pos h0]at ha
      rw[← ha];exact(he.drop x.n.toNat (by omega) hle).app (by rw[ha];exact ha1)
     ·rw[if_neg h0]at ha
      have:x.n.toNat=0:=by omega
      rw[this,← ha];simpa using he.app (zv0 _)
    have hl1:(pre++[a]).length=pre.length+1:=by simp
    have h3:=zgj l (pre++[a]) _ (by rw[hl1];exact hg) he2;have hap:pre++[a]++g=pre++a :: g:=by simp
    rw[hap,hl1]at h3;intro j y hy;cases j with
    | zero=>
      obtain rfl:=zv4 hy;have h4:=(he.app (g:=a :: g) (zv0 _)).start (n:=x.n.toNat) hle;rw[Nat.add_zero,h4];have h5:(pre++a :: g).getD pre.length 0=a:=by rw[zv2,List.getElem?_append_right (zv0 _),Nat.sub_self];rfl
      rw[h5,← ha]
      by_cases h0:0<x.n
      ·rw[if_pos (by omega),if_pos h0]
      ·rw[if_neg (by omega),if_neg h0]
    | succ j=>
      have:=h3 j y (by simpa using hy);rw[show pre.length+(j+1)=pre.length+1+j by omega];exact this
theorem zgp {t:List Nd}{fr:List Nat}(h:zah t=some fr){j:Nat}{x:Nd}(hx:t[j]?=some x):zbx fr x.n.toNat j=fr.getD j 0:=by
 unfold zah at h
 split at h
 ·rename_i f s hb
  obtain rfl:=zv4 h;have:=zgj t [] [] hb trivial j x hx;simpa using this
 ·cases h
theorem ziG:∀(l:List Nd) (i:Nat) (st:List Nat) {f st':List Nat},zaB l i st=some (f,st')→(st≠[]→st.getLast?=some 0)→(st=[]→i=0)→st'≠[]→st'.getLast?=some 0
 | [],i,st,f,st',h,h1,_,h3=>by
   rw[zaB]at h;obtain⟨_,rfl⟩:=Prod.mk.inj (zv4 h);exact h1 h3
 | x :: l,i,st,f,st',h,h1,h2,h3=>by
   rw[zaB]at h
   split at h
   ·cases h
   ·rename_i hn
    simp only[Option.map_eq_some_iff]at h;obtain⟨⟨g,st2⟩,hg,e⟩:=h;obtain⟨_,rfl⟩:=Prod.mk.inj e;refine ziG l (i+1) _ hg (fun _=>?_) (fun h=>by cases h) h3
    by_cases hs:st=[]
    ·subst hs
     have:x.n.toNat=0:=by simp at hn;omega
     rw[this,if_neg (by simp at hn;omega),h2 rfl]
     rfl
    ·have hl:=h1 hs
     rcases Nat.lt_or_ge x.n.toNat st.length with h'|h'
     ·have hd:st.drop x.n.toNat≠[]:=by simp;omega
      rw[List.getLast?_cons_of_ne_nil hd,List.getLast?_drop,if_neg (by omega)];exact hl
     ·have hd:st.drop x.n.toNat=[]:=by simp;omega
      have hpos:0<st.length:=zwc hs;rw[hd,if_pos (by omega)];rw[List.getLast?_eq_getElem?]at hl;have e1:x.n.toNat-1=st.length-1:=by omega
      rw[zv2,e1,hl]
      rfl
theorem zmj {t:List Nd}{fr:List Nat}(h:zah t=some fr):fr.getD (t.length-1) 0=0:=by
 unfold zah at h
 split at h
 ·rename_i f s hb
  obtain rfl:=zv4 h;obtain⟨_,h2,_⟩:=zdG t [] [] hb trivial;simp only[List.nil_append,List.length_nil,Nat.zero_add]at h2;have h3:=ziG t 0 [] hb (fun h=>absurd rfl h) (fun _=>rfl) (by simp);simp at h3;rw[h2.2.1,h3]
 ·cases h
theorem znv {fr:List Nat}:∀{n e:Nat},Back fr n e→zbx fr n e≤e∧((zby fr n e).map fun p=>p+1-fr.getD p 0).sum=e-zbx fr n e
 | 0,e,_=>⟨zv0 _,by simp[zby,zbx]⟩
 | n+1,e,⟨h1,h2,h3⟩=>by
   obtain⟨a,b⟩:=znv h3;refine⟨by rw[zbx];omega,?_⟩;rw[zby,List.map_append,List.sum_append,b,zbx];simp only[List.map_cons,List.map_nil,List.sum_cons,List.sum_nil];omega
def zjD (t:List Nd)(fr:List Nat):Nat→Nat→Nat→List (Nat × Nat)
 | 0,_,_=>[]
 | m+1,k,d=>(k,d) :: (partsAt t fr k).flatMap fun p=>zjD t fr m p (d+1)
def walkN (t:List Nd)(fr:List Nat)(k d:Nat):List (Nat × Nat):=zjD t fr (k+1) k d
theorem zd5 {α β:Type}{f g:α→List β}:∀{l:List α},(∀x ∈ l,f x=g x)→l.flatMap f=l.flatMap g
 | [],_=>rfl
 | x :: l,h=>by rw[List.flatMap_cons,List.flatMap_cons,h x (List.mem_cons_self ..),zd5 fun y hy=>h y (List.mem_cons_of_mem _ hy)]
theorem zft {t:List Nd}{fr:List Nat}(h:Formed t fr):∀(m k d:Nat),k<m→zjD t fr m k d=zjD t fr (k+1) k d
 | 0,k,_,hk=>by omega
 | m+1,k,d,hk=>by
   rw[zjD,zjD]
   congr 1
   refine zd5 fun p hp=>?_
   have:=h.parts_lt hp;rw[zft h m p _ (by omega),zft h k p _ (by omega)]
theorem zgo {t:List Nd}{fr:List Nat}(h:Formed t fr)(k d:Nat):walkN t fr k d=(k,d) :: (partsAt t fr k).flatMap fun p=>walkN t fr p (d+1):=by
 unfold walkN;rw[zjD]
 congr 1
 refine zd5 fun p hp=>?_
 rw[zft h k p _ (h.parts_lt hp)]
theorem zhk {α β:Type}{f:α→List β}{g:α→Nat}:∀{l:List α},(∀x ∈ l,(f x).length=g x)→(l.flatMap f).length=(l.map g).sum
 | [],_=>rfl
 | x :: l,h=>by rw[List.flatMap_cons,List.length_append,h x (List.mem_cons_self ..),zhk fun y hy=>h y (List.mem_cons_of_mem _ hy)];simp
theorem zdM {t:List Nd}{fr:List Nat}(hb:zah t=some fr):∀(m k d:Nat),k<m→k<t.length→(walkN t fr k d).length=k+1-fr.getD k 0
 | 0,k,_,hk,_=>by omega
 | m+1,k,d,hk,hl=>by
   have hF:=zar hb;have hx:=zv1 hl
   rw[zgo hF,List.length_cons,zhk (g:=fun p=>p+1-fr.getD p 0) (fun p hp=>by
    have:=hF.parts_lt hp
    exact zdM hb m p _ (by omega) (by omega))]
   obtain⟨h0,hbk,hle⟩:=hF.node k _ hx;rw[zan hx,(znv hbk).2,zgp hb hx];omega
theorem zms {t:List Nd}{fr:List Nat}(hF:Formed t fr):∀(m k d:Nat),k<m→∀x ∈ walkN t fr k d,x.1≤k∧d≤x.2∧x.2+x.1≤d+k
 | 0,k,_,hk,_,_=>by omega
 | m+1,k,d,hk,x,hx=>by
   rw[zgo hF]at hx;rcases List.mem_cons.1 hx with rfl|hx
   ·exact⟨zv0 _,zv0 _,by show d+k≤d+k;omega⟩
   ·obtain⟨p,hp,hx⟩:=List.mem_flatMap.1 hx
    have hpk:=hF.parts_lt hp;have:=zms hF m p (d+1) (by omega) x hx;omega
def SlotOk (sl:List SlU)(b:Bnd)(n:ByteArray):Prop:=0≤b.idx∧∃x,sl[b.idx.toNat]?=some x∧x.name=n∧x.type=b.type
def BndOk (fs:FileN)(sl:List SlU)(b:Bnd)(n:ByteArray):Prop:=(b.kind=3∧SlotOk sl b n)∨(b.kind≠3∧fs.look n=some b)
theorem SlotOk.more {sl:List SlU}{b:Bnd}{n:ByteArray}(h:SlotOk sl b n)(ex:List SlU):SlotOk (sl++ex) b n:=by
 obtain⟨h0,x,h1,h2⟩:=h;exact⟨h0,x,by rw[List.getElem?_append_left (List.getElem?_eq_some_iff.1 h1).1];exact h1,h2⟩
theorem BndOk.more {fs:FileN}{sl:List SlU}{b:Bnd}{n:ByteArray}(h:BndOk fs sl b n)(ex:List SlU):BndOk fs (sl++ex) b n:=h.imp (fun ⟨h1,h2⟩=>⟨h1,h2.more ex⟩) id
def ScOk (sl:List SlU)(s:ScN):Prop:=∀n b,entB s.ents n=some b→b.kind=3∧SlotOk sl b n
theorem ScOk.more {sl:List SlU}{s:ScN}(h:ScOk sl s)(ex:List SlU):ScOk (sl++ex) s:=fun n b hb=>⟨(h n b hb).1,(h n b hb).2.more ex⟩
theorem zmE (sl:List SlU):ScOk sl ScN.new:=fun n b h=>by cases h
theorem zkP (n:ByteArray)(b:Bnd)(L:List (ByteArray × Bnd))(m:ByteArray):entB ((n,b) :: L) m=if n=m then some b else entB L m:=by
 unfold entB;rw[List.find?_cons]
 by_cases e:n=m
 ·simp[e]
 ·simp[e]
theorem ScOk.bind {sl:List SlU}{s:ScN}(h:ScOk sl s){n:ByteArray}{b:Bnd}(hb:b.kind=3)(ho:SlotOk sl b n):ScOk sl (s.bind n b):=fun m c hc=>by
 unfold ScN.bind at hc;rw[zkP]at hc
 split at hc
 ·rename_i e
  obtain rfl:=zv4 hc;subst e;exact⟨hb,ho⟩
 ·exact h m c hc
theorem ScOk.take {sl:List SlU}{s:ScN}(h:ScOk sl s)(n:ByteArray):ScOk sl (s.take n):=h
theorem znh {fs:FileN}{sl:List SlU}(hf:FileOk fs):∀{c:List ScN} {n:ByteArray} {b:Bnd},(∀s ∈ c,ScOk sl s)→zd9 fs c n=some b→BndOk fs sl b n
 | [],n,b,_,h=>.inr ⟨fun e=>by
    rw[zd9]at h;unfold FileN.look at h;rcases he:entB fs.ents n with _|d
    ·rw[he]at h
     have:=zfl h;omega
    ·rw[he]at h
     obtain rfl:=zv4 h;have:=(hf.kinds n d he).1
     omega,h⟩
 | s :: up,n,b,hc,h=>by
   rw[zd9]at h;rcases he:entB s.ents n with _|d
   ·rw[he]at h
    exact znh hf (fun s' hs=>hc s' (List.mem_cons_of_mem _ hs)) h
   ·rw[he]at h
    obtain rfl:=zv4 h;exact .inl (hc s List.mem_cons_self n d he)
theorem zqi {fs:FileN}(hf:FileOk fs){n:ByteArray}{b:Bnd}(h:fs.look n=some b):b.kind=1∨b.kind=2∨b.kind=4:=by
 unfold FileN.look at h;rcases he:entB fs.ents n with _|d
 ·rw[he]at h
  exact .inr (.inr (zfl h))
 ·rw[he]at h
  obtain rfl:=zv4 h;have:=(hf.kinds n d he).1;omega
theorem BndOk.kind {fs:FileN}(hf:FileOk fs){sl:List SlU}{b:Bnd}{n:ByteArray}(h:BndOk fs sl b n):b.kind≠0:=by
 rcases h with ⟨h,_⟩|⟨_,h⟩
 ·omega
 ·have:=zqi hf h;omega
def zfk (t:List Nd)(a b:Nat):Nat:=((t.drop a).take (b-a)).countP fun x=>decide (x.kind=22)
theorem zoO (t:List Nd)(a:Nat):zfk t a a=0:=by unfold zfk;simp
theorem zeX (t:List Nd){a b c:Nat}(h1:a≤b)(h2:b≤c):zfk t a b+zfk t b c=zfk t a c:=by
 unfold zfk;rw[show c-a=(b-a)+(c-b) by omega,List.take_add,List.countP_append,List.drop_drop,show a+(b-a)=b by omega]
theorem zoN {t:List Nd}{k:Nat}(h:k<t.length):zfk t k (k+1)=if (t.getD k ndU0).kind=22 then 1 else 0:=by
 unfold zfk;have e:t.getD k ndU0=t[k]:=by simp[List.getD,h]
 rw[show k+1-k=1 by omega,List.drop_eq_getElem_cons h,List.take_succ_cons,List.take_zero,e]
 by_cases hk:t[k].kind=22
 ·simp[hk]
 ·simp[hk]
structure Cov (fs:FileN)(t:List Nd)(a b:Nat)(r r':ResN):Prop where
 le:a≤b
 len:r'.out.length=r.out.length
 far:∀j,j<a∨b≤j→r'.out[j]?=r.out[j]?
 near:∀j,a≤j→j<b→j<r.out.length→if (t.getD j ndU0).kind=3∨(t.getD j ndU0).kind=22 then ∃c,r'.out[j]?=some c∧BndOk fs r'.slots c (t.getD j ndU0).text∧((t.getD j ndU0).kind=22→c.kind=3) else r'.out[j]?=r.out[j]?
 slots:∃ex,r'.slots=r.slots++ex∧ex.length=zfk t a b
theorem Cov.refl (fs:FileN)(t:List Nd)(a:Nat)(r:ResN):Cov fs t a a r r:=⟨zv0 _,rfl,fun _ _=>rfl,fun j h1 h2=>by omega,[],by simp,by rw[zoO];rfl⟩
theorem Cov.trans {fs:FileN}{t:List Nd}{a b c:Nat}{r r1 r2:ResN}(h:Cov fs t a b r r1)(g:Cov fs t b c r1 r2):Cov fs t a c r r2:=by
 obtain⟨ex,e1,l1⟩:=h.slots;obtain⟨ey,e2,l2⟩:=g.slots;refine⟨zv6 h.le g.le,g.len.trans h.len,fun j hj=>?_,fun j h1 h2 hl=>?_,ex++ey,by rw[e2,e1,List.append_assoc],by rw[List.length_append,l1,l2,zeX t h.le g.le]⟩
 ·have:=h.le
  have:=g.le;rw[g.far j (by omega),h.far j (by omega)]
 ·rcases Nat.lt_or_ge j b with hb|hb
  ·have hn:=h.near j h1 hb hl
   have hg:=g.far j (.inl hb)
   split
   ·rename_i hk
    rw[if_pos hk]at hn;obtain⟨d,hd,ho,h3⟩:=hn;exact⟨d,hg.trans hd,by rw[e2];exact ho.more ey,h3⟩
   ·rename_i hk
    rw[if_neg hk]at hn;exact hg.trans hn
  ·have hn:=g.near j hb h2 (by rw[h.len];exact hl)
   split
   ·rename_i hk
    rw[if_pos hk]at hn;exact hn
   ·rename_i hk
    rw[if_neg hk]at hn;rw[hn];exact h.far j (.inr hb)
theorem zc3 (t:List Nd)(fr:List Nat)(fs:FileN):∀(ps qs:List Nat) (up:List ScN) (s:ScN) (r:ResN),visitsN t fr fs (ps++qs) up s r=visitsN t fr fs qs up (visitsN t fr fs ps up s r).2 (visitsN t fr fs ps up s r).1
 | [],_,_,_,_=>rfl
 | p :: ps,qs,up,s,r=>by rw[List.cons_append,visitsN,visitsN,zc3]
theorem zcO {t:List Nd}{fr:List Nat}{fs:FileN}(hf:Formed t fr)(k:Nat)(up:List ScN)(s:ScN)(own:Bool){r:ResN}(h:r.fault.2≠0):visitN t fr fs k up s own r=(r,s):=by
 rw[zc9 hf,if_pos h]
theorem za9 {t:List Nd}{fr:List Nat}{fs:FileN}(hf:Formed t fr):∀(ps:List Nat) (up:List ScN) (s:ScN) {r:ResN},r.fault.2≠0→visitsN t fr fs ps up s r=(r,s)
 | [],_,_,_,_=>rfl
 | p :: ps,up,s,r,h=>by rw[visitsN,zcO hf p up s false h];exact za9 hf ps up s h
theorem zdn {r:ResN}{a c:Int}(hc:c≠0)(h:(r.wrong a c).fault.2=0):False:=by
 unfold ResN.wrong at h
 split at h
 ·exact hc h
 ·rename_i h1;exact h1 h
theorem zgK {r:ResN}{s:ScN}{n:ByteArray}{a:Int}(h:(slotW r s n a).fault.2=0):(s.taken.any fun q=>decide (q=n))=false∧r.slots.length<256∧slotW r s n a=r:=by
 unfold slotW at h ⊢;simp only at h ⊢
 by_cases ht:(s.taken.any fun q=>decide (q=n))=true
 ·rw[if_pos ht]at h
  split at h
  ·exact absurd h (fun h=>zdn (by decide) h)
  ·exact absurd h (fun h=>zdn (by decide) h)
 ·rw[if_neg ht]at h ⊢
  split at h
  ·exact absurd h (fun h=>zdn (by decide) h)
  ·rename_i hl
   rw[if_neg hl];exact⟨by simpa only[Bool.not_eq_true] using ht,by omega,rfl⟩
theorem zll {r:ResN}{s:ScN}{x:SlU}{a:Int}(h:(zbt r s x a).fault.2=0):r.fault.2=0∧(s.taken.any fun q=>decide (q=x.name))=false∧r.slots.length<256∧zbt r s x a=⟨r.slots++[x],r.out,r.fault⟩:=by
 have h':(slotW r s x.name a).fault.2=0:=h;obtain⟨h1,h2,h3⟩:=zgK h';refine⟨by rw[← h3];exact h',h1,h2,?_⟩;unfold zbt;rw[h3]
theorem zup {fs:FileN}{c:List ScN}{x:Nd}{k:Nat}{r:ResN}(h:(zbZ fs c x k r).fault.2=0)(_hr:r.fault.2=0):zbZ fs c x k r=r∧x.kind≠3∨∃b,x.kind=3∧zd9 fs c x.text=some b∧zbZ fs c x k r=r.put k b:=by
 unfold zbZ at h ⊢
 by_cases hk:x.kind=3
 ·rw[if_pos hk]at h ⊢
  rcases hc:zd9 fs c x.text with _|b
  ·rw[hc]at h
   exact absurd h (fun h=>zdn (a:=x.at_) (c:=130) (by decide) h)
  ·exact .inr ⟨b,hk,rfl,rfl⟩
 ·rw[if_neg hk]
  exact .inl ⟨rfl,hk⟩
theorem Cov.slots_ok {fs:FileN}{t:List Nd}{a b:Nat}{r r':ResN}(h:Cov fs t a b r r'){s:ScN}(hs:ScOk r.slots s):ScOk r'.slots s:=by
 obtain⟨ex,e,_⟩:=h.slots;rw[e];exact hs.more ex
def zu5 (fs:FileN)(t:List Nd)(a b:Nat)(_s:ScN)(r:ResN)(q:ResN × ScN):Prop:=r.fault.2=0∧Cov fs t a b r q.1∧ScOk q.1.slots q.2
theorem zhO {t:List Nd}{fr:List Nat}{fs:FileN}(hf:Formed t fr):∀(n e:Nat),Back fr n e→(∀p,p<e→∀up s r,(∀s' ∈ s :: up,ScOk r.slots s')→(visitN t fr fs p up s false r).1.fault.2=0→zu5 fs t (fr.getD p 0) (p+1) s r (visitN t fr fs p up s false r)) →
 ∀up s r,(∀s' ∈ s :: up,ScOk r.slots s')→(visitsN t fr fs (zby fr n e) up s r).1.fault.2=0→zu5 fs t (zbx fr n e) e s r (visitsN t fr fs (zby fr n e) up s r)
 | 0,e,_,_,up,s,r,hs,h0=>⟨h0,Cov.refl _ _ _ _,hs s List.mem_cons_self⟩
 | n+1,e,⟨h1,h2,h3⟩,ih,up,s,r,hs,h0=>by
   rw[zby,zc3]at h0 ⊢;rw[zbx];have hrec:=zhO (fs:=fs) hf n _ h3 (fun p hp=>ih p (by omega)) up s r hs;generalize visitsN t fr fs (zby fr n (fr.getD (e-1) 0)) up s r=q at *;have hq0:q.1.fault.2=0:=by
    by_cases hq:q.1.fault.2=0
    ·exact hq
    ·rw[za9 hf _ _ _ hq]at h0
     exact absurd h0 hq
   obtain⟨a1,a2,a3⟩:=hrec hq0;rw[visitsN,visitsN]at h0 ⊢;have hs':∀s' ∈ q.2 :: up,ScOk q.1.slots s':=fun s' hm=>by
    rcases List.mem_cons.1 hm with rfl|hm
    ·exact a3
    ·exact a2.slots_ok (hs s' (List.mem_cons_of_mem _ hm))
   obtain⟨b1,b2,b3⟩:=ih (e-1) (by omega) up q.2 q.1 hs' h0;rw[show e-1+1=e by omega]at b2;exact⟨a1,a2.trans b2,b3⟩
theorem zpb {t:List Nd}{fr:List Nat}{fs:FileN}(hb:zah t=some fr)(hok:FileOk fs)(k:Nat):k<t.length→∀up s own r,(∀s' ∈ s :: up,ScOk r.slots s')→(visitN t fr fs k up s own r).1.fault.2=0→zu5 fs t (fr.getD k 0) (k+1) s r (visitN t fr fs k up s own r):=by
 have hf:=zar hb
 induction k using Nat.strongRecOn with
 | ind k ih=>
   intro hk up s own r hs h0;have hx:=zv1 hk;obtain⟨_,h2,h3⟩:=hf.node k _ hx;have h4:=zgp hb hx;have hgx:t.getD k ndU0=t[k]:=by simp[List.getD,hk]
   have hvs:=zhO (fs:=fs) hf t[k].n.toNat k h2 (fun p hp up s r=>ih p hp (by omega) up s false r);rw[← zan hx,h4]at hvs;have hone:=zoN hk;rw[zc9 hf]at h0 ⊢
   by_cases hr:r.fault.2=0
   ·rw[if_neg (show ¬r.fault.2≠0 by simp[hr])]at h0 ⊢
    by_cases k22:(t.getD k ndU0).kind=22
    ·rw[if_pos k22]at h0 ⊢
     simp only at h0 ⊢;generalize hs1:s.take (t.getD k ndU0).text=s1 at *;generalize hr1:zbt r s (zbf (t.getD k ndU0)) (t.getD k ndU0).at_=r1 at *;have hr10:r1.fault.2=0:=by
      by_cases h:r1.fault.2=0
      ·exact h
      ·rw[za9 hf _ _ _ h]at h0
       exact absurd h0 h
     have h5:=zll (r:=r) (s:=s) (x:=zbf (t.getD k ndU0)) (a:=(t.getD k ndU0).at_) (by rw[hr1];exact hr10);rw[hr1]at h5;obtain⟨_,_,_,e1⟩:=h5;have hsl:r1.slots=r.slots++[zbf (t.getD k ndU0)]:=by rw[e1]
     have hs':∀s' ∈ s1 :: up,ScOk r1.slots s':=fun s' hm=>by
      rw[hsl];rcases List.mem_cons.1 hm with rfl|hm
      ·rw[← hs1];exact((hs s List.mem_cons_self).take _).more _
      ·exact(hs s' (List.mem_cons_of_mem _ hm)).more _
     obtain⟨_,c2,c3⟩:=hvs up s1 r1 hs' h0;generalize visitsN t fr fs (partsAt t fr k) up s1 r1=q at *;have hslot:SlotOk q.1.slots (zcs r (zbf (t.getD k ndU0))) (t.getD k ndU0).text:=by
      obtain⟨ex,ee,_⟩:=c2.slots;rw[ee,hsl];refine SlotOk.more ⟨by unfold zcs;simp,zbf (t.getD k ndU0),?_,rfl,rfl⟩ ex;unfold zcs;simp
     have hout:r1.out=r.out:=by rw[e1]
     refine⟨hr,⟨by omega,?_,fun j hj=>?_,fun j j1 j2 jl=>?_,?_⟩,c3.bind rfl hslot⟩
     ·show (q.1.out.set k _).length=_
      rw[List.length_set,c2.len,hout]
     ·show (q.1.out.set k _)[j]?=_
      rw[List.getElem?_set_ne (by omega),c2.far j (by omega),hout]
     ·show if _ then ∃c,(q.1.out.set k _)[j]?=some c∧_ else (q.1.out.set k _)[j]?=_
      by_cases hjk:j=k
      ·subst hjk
       rw[if_pos (.inr k22)];exact⟨_,List.getElem?_set_self (by rw[c2.len,hout];exact jl),.inl ⟨rfl,hslot⟩,fun _=>rfl⟩
      ·rw[List.getElem?_set_ne (by omega)]
       have:=c2.near j j1 (by omega) (by rw[hout];exact jl);rw[hout]at this;exact this
     ·obtain⟨ex,ee,l⟩:=c2.slots
      refine⟨zbf (t.getD k ndU0) :: ex,by show q.1.slots=_;rw[ee,hsl];simp,?_⟩;rw[List.length_cons,l,← zeX t h3 (Nat.le_succ k),hone,if_pos k22]
    ·rw[if_neg k22]at h0 ⊢
     have key:∀(up':List ScN) (s':ScN) (r2:ResN),r2=zbZ fs (s :: up) (t.getD k ndU0) k r→(∀x ∈ s' :: up',ScOk r.slots x)→(visitsN t fr fs (partsAt t fr k) up' s' r2).1.fault.2=0→Cov fs t (fr.getD k 0) (k+1) r (visitsN t fr fs (partsAt t fr k) up' s' r2).1∧ScOk (visitsN t fr fs (partsAt t fr k) up' s' r2).1.slots (visitsN t fr fs (partsAt t fr k) up' s' r2).2:=by
      intro up' s' r2 hr2 hs' h0';have hr20:r2.fault.2=0:=by
       by_cases h:r2.fault.2=0
       ·exact h
       ·rw[za9 hf _ _ _ h]at h0'
        exact absurd h0' h
      have hnm:=zup (fs:=fs) (c:=s :: up) (x:=t.getD k ndU0) (k:=k) (r:=r) (by rw[← hr2];exact hr20) hr;rw[← hr2]at hnm;have hsl:r2.slots=r.slots:=by
       rcases hnm with ⟨e,_⟩|⟨b,_,_,e⟩<;>rw[e]<;>rfl
      obtain⟨_,c2,c3⟩:=hvs up' s' r2 (fun x hm=>by rw[hsl];exact hs' x hm) h0';generalize visitsN t fr fs (partsAt t fr k) up' s' r2=q at *;refine⟨⟨by omega,?_,fun j hj=>?_,fun j j1 j2 jl=>?_,?_⟩,c3⟩
      ·rw[c2.len]
       rcases hnm with ⟨e,_⟩|⟨b,_,_,e⟩
       ·rw[e]
       ·rw[e];exact List.length_set
      ·rw[c2.far j (by omega)]
       rcases hnm with ⟨e,_⟩|⟨b,_,_,e⟩
       ·rw[e]
       ·rw[e]
        show (r.out.set k b)[j]?=_;rw[List.getElem?_set_ne (by omega)]
      ·have hl2:r2.out.length=r.out.length:=by
        rcases hnm with ⟨e,_⟩|⟨b,_,_,e⟩
        ·rw[e]
        ·rw[e];exact List.length_set
       by_cases hjk:j=k
       ·subst hjk
        have hfar:=c2.far j (.inr (zv0 _));rcases hnm with ⟨e,hne⟩|⟨b,hk3,hfc,e⟩
        ·rw[if_neg (by rintro(h|h);exact hne h;exact k22 h),hfar,e]
        ·rw[if_pos (.inl hk3)]
         refine⟨b,?_,?_,fun h=>absurd h k22⟩
         ·rw[hfar,e]
          exact List.getElem?_set_self jl
         ·obtain⟨ex,ee,_⟩:=c2.slots
          rw[ee,hsl];exact(znh hok hs hfc).more ex
       ·have:=c2.near j j1 (by omega) (by rw[hl2];exact jl)
        split
        ·rename_i hk
         rw[if_pos hk]at this;exact this
        ·rename_i hk
         rw[if_neg hk]at this;rw[this];rcases hnm with ⟨e,_⟩|⟨b,_,_,e⟩
         ·rw[e]
         ·rw[e]
          show (r.out.set k b)[j]?=_;rw[List.getElem?_set_ne (fun h=>hjk h.symm)]
      ·obtain⟨ex,ee,l⟩:=c2.slots
       refine⟨ex,by rw[ee,hsl],?_⟩;rw[l,← zeX t h3 (Nat.le_succ k),hone,if_neg k22,Nat.add_zero]
     by_cases hop:zcb (t.getD k ndU0) own=true
     ·rw[if_pos hop]at h0 ⊢
      obtain⟨c1,c2⟩:=key (s :: up) ScN.new _ rfl (fun x hm=>by
       rcases List.mem_cons.1 hm with rfl|hm
       ·exact zmE _
       ·exact hs x hm) h0
      exact⟨hr,c1,c1.slots_ok (hs s List.mem_cons_self)⟩
     ·rw[if_neg hop]at h0 ⊢
      obtain⟨c1,c2⟩:=key up s _ rfl hs h0;exact⟨hr,c1,c2⟩
   ·rw[if_pos hr]at h0
    exact absurd h0 hr
def Small (r:ResN):Prop:=r.slots.length≤300∧(r.fault.2=0→r.slots.length≤256)
def Grow (s:ScN)(r:ResN)(q:ResN × ScN):Prop:=r.slots.length≤q.1.slots.length∧q.2.ents.length+r.slots.length≤s.ents.length+q.1.slots.length∧q.2.taken.length+r.slots.length≤s.taken.length+q.1.slots.length∧q.1.out.length=r.out.length∧(Small r→Small q.1)
theorem Grow.refl (s:ScN)(r:ResN):Grow s r (r,s):=⟨zv0 _,zv0 _,zv0 _,rfl,id⟩
theorem Grow.trans {s:ScN}{r:ResN}{q q':ResN × ScN}(h:Grow s r q)(g:Grow q.2 q.1 q'):Grow s r q':=by
 obtain⟨h1,h2,h3,h4,h5⟩:=h;obtain⟨g1,g2,g3,g4,g5⟩:=g;exact⟨by omega,by omega,by omega,g4.trans h4,fun hs=>g5 (h5 hs)⟩
theorem zk8 {r:ResN}(h:Small r)(a c:Int):Small (r.wrong a c):=by
 unfold ResN.wrong
 split
 ·rename_i h0
  exact⟨h.1,fun _=>h.2 h0⟩
 ·exact h
theorem zlk {r:ResN}{s:ScN}{n:ByteArray}{a:Int}:(slotW r s n a).fault.2=0→r.slots.length<256:=fun h0=>(zgK h0).2.1
theorem zki {fs:FileN}{c:List ScN}{x:Nd}{k:Nat}{r:ResN}:(zbZ fs c x k r).slots=r.slots∧(zbZ fs c x k r).out.length=r.out.length∧(Small r→Small (zbZ fs c x k r)):=by
 unfold zbZ
 split
 ·split
  ·exact⟨rfl,List.length_set,fun h=>h⟩
  ·refine⟨(zbC r _ _).1,?_,fun h=>?_⟩
   ·show ((r.wrong x.at_ 130).out.set k bnd0).length=_
    rw[List.length_set,(zbC r _ _).2]
   ·have:=zk8 h x.at_ 130
    exact this
 ·exact⟨rfl,rfl,id⟩
theorem ze3 {r:ResN}{s:ScN}{x:SlU}{a:Int}:(zbt r s x a).slots.length=r.slots.length+1∧(zbt r s x a).out.length=r.out.length∧(Small r→r.fault.2=0→Small (zbt r s x a)):=by
 obtain⟨h1,h2⟩:=zeF r s x.name a;unfold zbt;refine⟨by simp[h1],by simp[h2],fun h hr=>?_⟩;unfold Small;simp only[List.length_append,h1,List.length_cons,List.length_nil];have h3:=h.2 hr;refine⟨by omega,fun h0=>?_⟩;have:=zlk (s:=s) (n:=x.name) (a:=a) h0;omega
theorem zhg {t:List Nd}{fr:List Nat}{fs:FileN}{m:Nat}(h:∀k up s own r,Grow s r (zdH t fr fs m k up s own r)):∀(ps:List Nat) up s r,Grow s r (visitsF t fr fs m ps up s r)
 | [],up,s,r=>by rw[visitsF];exact Grow.refl s r
 | p :: ps,up,s,r=>by
   rw[visitsF];exact(h p up s false r).trans (zhg h ps up _ _)
theorem zis {t:List Nd}{fr:List Nat}{fs:FileN}:∀(m k:Nat) up s own r,Grow s r (zdH t fr fs m k up s own r)
 | 0,k,up,s,own,r=>by rw[zdH];exact Grow.refl s r
 | m+1,k,up,s,own,r=>by
   have hv:=zhg (zis (t:=t) (fr:=fr) (fs:=fs) m);rw[zdH]
   by_cases hr:r.fault.2≠0
   ·rw[if_pos hr];exact Grow.refl s r
   ·rw[if_neg hr]
    have hr0:r.fault.2=0:=by simpa using hr
    split
    ·obtain⟨l1,l2,l3⟩:=ze3 (r:=r) (s:=s) (x:=zbf (t.getD k ndU0)) (a:=(t.getD k ndU0).at_)
     obtain⟨h1,h2,h3,h4,h5⟩:=hv (partsAt t fr k) up (s.take (t.getD k ndU0).text) (zbt r s (zbf (t.getD k ndU0)) (t.getD k ndU0).at_);generalize visitsF t fr fs m (partsAt t fr k) up (s.take (t.getD k ndU0).text) (zbt r s (zbf (t.getD k ndU0)) (t.getD k ndU0).at_)=q at *;simp only;have e1:(s.take (t.getD k ndU0).text).ents.length=s.ents.length:=rfl;have e2:(s.take (t.getD k ndU0).text).taken.length=s.taken.length+1:=rfl;rw[l1]at h1 h2 h3;rw[e1]at h2;rw[e2]at h3;refine⟨?_,?_,?_,?_,fun hs=>?_⟩
     ·show r.slots.length≤q.1.slots.length
      omega
     ·show (q.2.ents.length+1)+r.slots.length≤s.ents.length+q.1.slots.length
      omega
     ·show q.2.taken.length+r.slots.length≤s.taken.length+q.1.slots.length
      omega
     ·show (q.1.out.set k _).length=_
      rw[List.length_set,h4,l2]
     ·exact h5 (l3 hs hr0)
    ·obtain⟨l1,l2,l3⟩:=zki (fs:=fs) (c:=s :: up) (x:=t.getD k ndU0) (k:=k) (r:=r)
     split
     ·obtain⟨h1,h2,h3,h4,h5⟩:=hv (partsAt t fr k) (s :: up) ScN.new (zbZ fs (s :: up) (t.getD k ndU0) k r)
      rw[l1]at h1 h2 h3;exact⟨h1,Nat.add_le_add_left h1 _,Nat.add_le_add_left h1 _,h4.trans l2,fun hs=>h5 (l3 hs)⟩
     ·obtain⟨h1,h2,h3,h4,h5⟩:=hv (partsAt t fr k) up s (zbZ fs (s :: up) (t.getD k ndU0) k r)
      rw[l1]at h1 h2 h3;exact⟨h1,h2,h3,h4.trans l2,fun hs=>h5 (l3 hs)⟩
theorem zqH {t:List Nd}{fr:List Nat}{fs:FileN}(k:Nat)(up:List ScN)(s:ScN)(own:Bool)(r:ResN):Grow s r (visitN t fr fs k up s own r):=zis (k+1) k up s own r
theorem zi8 {t:List Nd}{fr:List Nat}{fs:FileN}:∀(ps:List Nat) up s r,Grow s r (visitsN t fr fs ps up s r)
 | [],up,s,r=>by rw[visitsN];exact Grow.refl s r
 | p :: ps,up,s,r=>by
   rw[visitsN];exact(zqH p up s false r).trans (zi8 ps up _ _)
theorem zjg {α:Type}{f:α→Int}:∀{L:List α} {n:Nat},zbV f L n=none→∀x ∈ L,f x=0
 | [],_,_,x,hx=>by cases hx
 | y :: L,n,h,x,hx=>by
   rw[zbV]at h
   split at h
   ·cases h
   ·rename_i h1
    rcases List.mem_cons.1 hx with rfl|hx
    ·simpa using h1
    ·exact zjg h x hx
theorem zhl {α:Type}{f:α→Int}:∀{L:List α} {n:Nat} {p:Int × Int},zbV f L n=some p→p.2≠0
 | [],_,_,h=>by cases h
 | y :: L,n,p,h=>by
   rw[zbV]at h
   split at h
   ·rename_i h1
    obtain rfl:=zv4 h;exact h1
   ·exact zhl h
theorem zt1 {u:UnU}(h:(unitE u).2=0):(∀g ∈ u.globals,globE u.structs g=0)∧∀f ∈ u.funcs,funcE u.structs f=0:=by
 unfold unitE at h
 split at h
 ·exact absurd h (by decide)
 ·split at h
  ·rename_i h1;exact absurd h h1
  ·split at h
   ·rename_i p hp;exact absurd h (zhl hp)
   ·rename_i hg
    split at h
    ·rename_i p hp;exact absurd h (zhl hp)
    ·rename_i hf
     exact⟨zjg hg,zjg hf⟩
theorem zsC {s s':FileN}{x:FnU}(h:oneF s x=.inr s'):∀y ∈ s'.funcs,y ∈ s.funcs∨y=x:=by
 unfold oneF at h
 split at h
 ·split at h
  ·cases h
  split at h
  ·cases h
  split at h
  ·cases h
  split at h
  ·obtain rfl:=Sum.inr.inj h
   intro y hy;exact List.mem_or_eq_of_mem_set hy
  ·obtain rfl:=Sum.inr.inj h
   exact fun y hy=>.inl hy
 ·split at h
  ·cases h
  ·obtain rfl:=Sum.inr.inj h
   intro y hy;rcases List.mem_append.1 hy with hy|hy
   ·exact .inl hy
   ·exact .inr (List.mem_singleton.1 hy)
theorem ziw:∀{L:List FnU} {s s':FileN},zaP L s=.inr s'→∀y ∈ s'.funcs,y ∈ s.funcs∨y ∈ L
 | [],s,s',h=>by
   rw[zaP]at h;obtain rfl:=Sum.inr.inj h;exact fun y hy=>.inl hy
 | x :: r,s,s',h=>by
   rw[zaP]at h;rcases hx:oneF s x with c|s1
   ·rw[hx]at h;cases h
   ·rw[hx]at h
    intro y hy;rcases ziw h y hy with h1|h1
    ·rcases zsC hx y h1 with h2|rfl
     ·exact .inl h2
     ·exact .inr List.mem_cons_self
    ·exact .inr (List.mem_cons_of_mem _ h1)
theorem zho {u:UnU}{fs:FileN}(h:za1 u=.inr fs):(unitE u).2=0∧∃s,zaY u.globals 0 ⟨[],[]⟩=.inr s∧zaP u.funcs s=.inr fs∧s.funcs=[]∧FileOk s:=by
 unfold za1 at h
 split at h
 ·cases h
 ·rename_i h1
  rcases hg:zaY u.globals 0 ⟨[],[]⟩ with f|s1
  ·rw[hg]at h;cases h
  ·rw[hg]at h
   obtain⟨a,b⟩:=zfi zen hg;exact⟨by simpa using h1,s1,rfl,h,b,a⟩
theorem zfR {u:UnU}{fs:FileN}(h:za1 u=.inr fs):∀x ∈ fs.funcs,x ∈ u.funcs∧funcE u.structs x=0:=fun x hx=>by
 obtain⟨h0,s,_,h2,h3,_⟩:=zho h;rcases ziw h2 x hx with h4|h4
 ·rw[h3]at h4;cases h4
 ·exact⟨h4,(zt1 h0).2 x h4⟩
theorem zeW {u:UnU}{fs:FileN}(h:za1 u=.inr fs):FileOk fs:=by
 obtain⟨_,s,_,h2,_,h4⟩:=zho h;exact(zkI h4 h2).1
theorem zpx {K:List Kn}{s:ByteArray}{ps:List Ty}{r:Ty}(ht:tyS s=some (.fn ps r))(h:checkS K s=0):ps.length≤8:=by
 unfold checkS at h;rw[ht]at h;simp only at h;unfold zbA at h
 split at h
 ·cases h
 split at h
 ·cases h
 ·rename_i h1
  have h2:shapeT (.fn ps r)=true:=by simpa using h1
  rw[shapeT,Bool.and_eq_true,decide_eq_true_eq]at h2;exact h2.1
theorem zu1 {T:List Nd}(h:zjp T=0):T=[]∨(checkN9 T=0∧kindAt T (T.length-1)=21):=by
 unfold zjp at h
 split at h
 ·rename_i h1;exact .inl h1
 ·split at h
  ·rename_i h1;exact absurd h h1
  ·rename_i h1
   split at h
   ·cases h
   ·rename_i h2
    exact .inr ⟨by simpa using h1,by simpa using h2⟩
theorem zl6 {L:List Sr}{x:FnU}(h:funcE L x=0):x.params.length≤8∧(x.body=[]∨(checkN9 x.body=0∧kindAt x.body (x.body.length-1)=21)):=by
 unfold funcE at h
 split at h
 ·rename_i ps r ht
  split at h
  ·cases h
  ·rename_i h1
   split at h
   ·cases h
   ·have h2:zdu L x=true∧ps.length=x.params.length:=by
     simp only[not_or]at h1;exact⟨by simpa using h1.1,by simpa using h1.2⟩
    refine⟨?_,zu1 h⟩;rw[← h2.2];have h3:=h2.1;unfold zdu at h3;rw[Bool.and_eq_true,Bool.and_eq_true,decide_eq_true_eq,decide_eq_true_eq]at h3;have h4:=h3.2.2;unfold checkN at h4
    split at h4
    ·rename_i h5;exact absurd h4 (zhb h5)
    ·exact zpx ht h4
 ·cases h
theorem zer {t:List Nd}(h:checkN9 t=0):t.length≤4096∧(∀x ∈ t,wellN x=true)∧∃fr,zah t=some fr∧(∀k,k<t.length→fitsN t fr k=true)∧deepN t≤48:=by
 unfold checkN9 at h
 split at h
 ·cases h
 split at h
 ·cases h
 rename_i h1 h2
 split at h
 ·cases h
 rename_i fr hb
 split at h
 ·cases h
 rename_i h3
 split at h
 ·cases h
 rename_i h4
 refine⟨by omega,fun x hx=>?_,fr,hb,fun k hk=>?_,by omega⟩
 ·have h2':t.all wellN=true:=by simpa using h2
  exact List.all_eq_true.1 h2' x hx
 ·have h3':(List.range t.length).all (fitsN t fr)=true:=by simpa using h3
  exact List.all_eq_true.1 h3' k (List.mem_range.2 hk)
theorem zo7 {x:Nd}(h:wellN x=true)(hk:x.kind=3∨x.kind=22):isNameB x.text=true:=by
 unfold wellN at h;rw[Bool.and_eq_true]at h;have h2:=h.2;rw[if_neg (by omega),Bool.and_eq_true]at h2;have h3:=h2.2;unfold zc2 at h3;rw[if_neg (by omega)]at h3;rcases hk with hk|hk
 ·rw[if_pos (.inl hk),Bool.and_eq_true]at h3
  exact h3.1
 ·rw[if_neg (by omega),if_pos hk,Bool.and_eq_true]at h3
  exact h3.1
theorem zdz {fs:FileN}(hok:FileOk fs){n:ByteArray}{f:FnU}(h:zbn fs n=some f):∃b,fs.look n=some b∧b.kind=2∧0≤b.idx∧b.idx.toNat<fs.funcs.length∧fs.funcs[b.idx.toNat]?=some f∧f.name=n∧f.body≠[]:=by
 unfold zbn at h;rcases hb:fs.look n with _|b
 ·rw[hb]at h;cases h
 ·rw[hb]at h
  simp only at h
  split at h
  ·cases h
  ·rename_i h1
   obtain rfl:=zv4 h;simp only[not_or,ne_eq,Classical.not_not]at h1;obtain⟨a1,a2,a3⟩:=hok.func hb h1.1;refine⟨b,rfl,h1.1,a1,a2,?_,a3,h1.2⟩;rw[zv2,zv1 a2]
   rfl
theorem zf8:∀(ps qs:List VrU) (a:Int) (r:ResN) (s:ScN),parmsR (ps++qs) a r s=parmsR qs a (parmsR ps a r s).1 (parmsR ps a r s).2
 | [],_,_,_,_=>rfl
 | p :: ps,qs,a,r,s=>by rw[List.cons_append,parmsR,parmsR,zf8 ps qs]
def zbR (p:VrU):SlU:=⟨p.name,p.type,p.vol,true⟩
theorem zoi (ps:List VrU)(i:Nat)(hi:i<ps.length)(a:Int)(r:ResN)(s:ScN):parmsR (ps.take (i+1)) a r s=(zbt (parmsR (ps.take i) a r s).1 (parmsR (ps.take i) a r s).2 (zbR ps[i]) a,((parmsR (ps.take i) a r s).2.take ps[i].name).bind ps[i].name (zcs (parmsR (ps.take i) a r s).1 (zbR ps[i]))):=by
 rw[List.take_succ_eq_append_getElem hi,zf8]
 rfl
theorem zdZ:∀(ps:List VrU) (a:Int) (r:ResN) (s:ScN),(parmsR ps a r s).1.slots.length=r.slots.length+ps.length∧(parmsR ps a r s).1.out.length=r.out.length∧(parmsR ps a r s).2.ents.length=s.ents.length+ps.length∧(parmsR ps a r s).2.taken.length=s.taken.length+ps.length
 | [],a,r,s=>⟨rfl,rfl,rfl,rfl⟩
 | p :: ps,a,r,s=>by
   obtain⟨l1,l2,_⟩:=ze3 (r:=r) (s:=s) (x:=zbR p) (a:=a);have e:=zdZ ps a (zbt r s (zbR p) a) ((s.take p.name).bind p.name (zcs r (zbR p)));rw[l1,l2]at e;obtain⟨h1,h2,h3,h4⟩:=e;rw[parmsR,List.length_cons];refine⟨by rw[← Nat.add_assoc,Nat.add_right_comm];exact h1,h2,?_,?_⟩
   ·rw[← Nat.add_assoc,Nat.add_right_comm];exact h3
   ·rw[← Nat.add_assoc,Nat.add_right_comm];exact h4
theorem zlE:∀(ps:List VrU) (a:Int) (r:ResN) (s:ScN),(parmsR ps a r s).1.fault.2=0→r.fault.2=0∧(parmsR ps a r s).1=⟨r.slots++ps.map zbR,r.out,r.fault⟩
 | [],a,r,s,h=>⟨h,by simp[parmsR]⟩
 | p :: ps,a,r,s,h=>by
   rw[parmsR]at h ⊢;obtain⟨h1,h2⟩:=zlE ps a _ _ h;obtain⟨a1,_,_,a4⟩:=zll h1;refine⟨a1,?_⟩;rw[h2,a4];simp[zbR]
theorem zmO:∀(ps:List VrU) (a:Int) (r:ResN) (s:ScN),ScOk r.slots s→(parmsR ps a r s).1.fault.2=0→ScOk (parmsR ps a r s).1.slots (parmsR ps a r s).2
 | [],a,r,s,hs,h=>hs
 | p :: ps,a,r,s,hs,h=>by
   rw[parmsR]at h ⊢;obtain⟨h1,_⟩:=zlE ps a _ _ h;obtain⟨a1,_,_,a4⟩:=zll h1;refine zmO ps a _ _ ?_ h;rw[a4];refine ScOk.bind ((hs.more _).take _) rfl ⟨by unfold zcs;simp,⟨p.name,p.type,p.vol,true⟩,?_,rfl,rfl⟩;unfold zcs;simp
def zct (f:FnU):ResN:=⟨[],List.replicate f.body.length bnd0,(0,0)⟩
theorem zuE {fs:FileN}{f:FnU}{fr:List Nat}(hok:FileOk fs)(hb:zah f.body=some fr)(hne:f.body≠[])(h0:(goneR fs f).fault.2=0):Cov fs f.body 0 f.body.length (parmsR f.params f.at_ (zct f) ScN.new).1 (goneR fs f)∧(parmsR f.params f.at_ (zct f) ScN.new).1=⟨f.params.map zbR,List.replicate f.body.length bnd0,(0,0)⟩:=by
 have hl:0<f.body.length:=zwc hne;unfold goneR at h0 ⊢;rw[hb]at h0 ⊢;simp only[Option.getD_some]at h0 ⊢;have hq:(parmsR f.params f.at_ (zct f) ScN.new).1.fault.2=0:=by
  by_cases hq:(parmsR f.params f.at_ (zct f) ScN.new).1.fault.2=0
  ·exact hq
  ·have:=zcO (t:=f.body) (fr:=fr) (fs:=fs) (zar hb) (f.body.length-1) [] (parmsR f.params f.at_ (zct f) ScN.new).2 true hq
   unfold zct at this hq;rw[this]at h0;exact absurd h0 hq
 obtain⟨_,e⟩:=zlE _ _ _ _ hq;refine⟨?_,by rw[e];rfl⟩
 have:=(zpb hb hok (f.body.length-1) (by omega) [] (parmsR f.params f.at_ (zct f) ScN.new).2 true (parmsR f.params f.at_ (zct f) ScN.new).1 (fun s' hs'=>by
  rw[List.mem_singleton.1 hs']
  exact zmO _ _ _ _ (zmE _) hq) h0).2.1
 rw[zmj hb,show f.body.length-1+1=f.body.length by omega]at this;exact this
def lastTo (n:ByteArray)(L:List FnU):Nat→Int
 | 0=>-1
 | k+1=>if (L.getD k fnU0).name=n then (k:Int) else lastTo n L k
def zeD (out:List FnU)(f:FnU):List FnU:=
 if lastTo f.name out out.length<0 then out++[f]
 else if (out.getD (lastTo f.name out out.length).toNat fnU0).body=[]∧f.body≠[] then out.set (lastTo f.name out out.length).toNat f else out
def zeK (L:List FnU):List FnU:=L.foldl zeD []
theorem zd2 (n:ByteArray)(L:List FnU):∀k,lastTo n L k=-1∨∃i,i<k∧lastTo n L k=(i:Int)∧(L.getD i fnU0).name=n
 | 0=>.inl rfl
 | k+1=>by
   rw[lastTo]
   by_cases h:(L.getD k fnU0).name=n
   ·exact .inr ⟨k,by omega,if_pos h,h⟩
   ·rw[if_neg h]
    rcases zd2 n L k with h1|⟨i,h1,h2,h3⟩
    ·exact .inl h1
    ·exact .inr ⟨i,by omega,h2,h3⟩
theorem zhc {n:ByteArray}{L:List FnU}:∀{k},(∀i,i<k→(L.getD i fnU0).name≠n)→lastTo n L k=-1
 | 0,_=>rfl
 | k+1,h=>by
   rw[lastTo,if_neg (h k (by omega))];exact zhc fun i hi=>h i (by omega)
theorem zl0 {n:ByteArray}{L:List FnU}{k i:Nat}(hi:i<k)(hn:(L.getD i fnU0).name=n)(hu:∀j,j<k→(L.getD j fnU0).name=n→j=i):lastTo n L k=(i:Int):=by
 rcases zd2 n L k with h|⟨j,h1,h2,h3⟩
 ·exfalso
  clear hu
  induction k with
  | zero=>omega
  | succ m ih=>
    rw[lastTo]at h
    by_cases hm:(L.getD m fnU0).name=n
    ·rw[if_pos hm]at h;omega
    ·rw[if_neg hm]at h
     rcases Nat.lt_or_ge i m with h'|h'
     ·exact ih h' h
     ·obtain rfl:i=m:=by omega
      exact hm hn
 ·rw[h2,hu j h1 h3]
theorem zoj {s s':FileN}{x:FnU}(h:FileOk s)(e:oneF s x=.inr s'):s'.funcs=zeD s.funcs x:=by
 unfold oneF at e;unfold zeD
 split at e
 ·rename_i b hb
  split at e
  ·cases e
  rename_i hk
  have hk2:b.kind=2:=by simpa using hk
  obtain⟨_,hi,hn⟩:=h.func hb hk2;have hl:lastTo x.name s.funcs s.funcs.length=(b.idx.toNat:Int):=zl0 hi hn fun j hj hjn=>h.uniq hj hi (hjn.trans hn.symm)
  rw[hl,if_neg (by omega)];simp only[Int.toNat_natCast]
  split at e
  ·cases e
  rename_i hbd
  split at e
  ·cases e
  split at e
  ·rename_i hx
   cases e
   rw[if_pos ⟨by
    rcases hq:(s.funcs.getD b.idx.toNat fnU0).body with _|⟨y,r⟩
    ·rfl
    ·exact absurd ⟨hx,by rw[hq];simp⟩ hbd,hx⟩]
  ·rename_i hx
   cases e;rw[if_neg (fun h=>hx h.2)]
 ·rename_i hb
  split at e
  ·cases e
  ·cases e
   rw[zhc (fun i hi hn=>by
    have h2:=zkp hb;rw[← hn,h.has i hi]at h2
    cases h2),if_pos (by omega)]
theorem zgg:∀{L:List FnU} {s s':FileN},FileOk s→zaP L s=.inr s'→s'.funcs=L.foldl zeD s.funcs
 | [],s,s',_,e=>by
   rw[zaP]at e;cases e
   rfl
 | x :: r,s,s',h,e=>by
   rw[zaP]at e;rcases hx:oneF s x with c|s1
   ·rw[hx]at e;cases e
   ·rw[hx]at e
    rw[List.foldl_cons,← zoj h hx];exact zgg (zlJ h hx).1 e
theorem zgh {u:UnU}{s:FileN}(e:za1 u=.inr s):s.funcs=zeK u.funcs:=by
 unfold za1 at e
 split at e
 ·cases e
 rcases hg:zaY u.globals 0 ⟨[],[]⟩ with f|s1
 ·rw[hg]at e;cases e
 ·rw[hg]at e
  obtain⟨h1,h2⟩:=zfi zen hg;rw[zgg h1 e,h2]
  rfl
end Go.Proofs.YtbbaooeioogijaaGreatDoor
namespace Go.Proofs.YtbbaooeioogijaaGreatDoor
open Go.RowKit
set_option maxRecDepth 100000
set_option maxHeartbeats 1000000
theorem zmD {r:Option Ty}{w w':World}(hr:r=none)(hb:Below w.heap.size w w'):zhL r w (.returned (.tuple #[.string ⟨#[]⟩,.slice none 0 0,.int .i64 2])) w':=by subst hr;exact⟨rfl,hb⟩
theorem zgM {t:Ty}{w w':World}(ht:isFnT t=false)(hb:Below w.heap.size w w'):zhL (some t) w (.returned (.tuple #[.string ⟨#[]⟩,.slice none 0 0,.int .i64 5])) w':=by
 cases t with
 | fn ps r=>cases ht
 | _=>exact⟨rfl,hb⟩
theorem zpr (s:ByteArray)(w:World)(hE:TE w)(h:tyS s=none):Calls Tryz.prog 85 #[.string s] w (zhL (tyS s) w):=by
 have HF:=Hd (zjb false s w hE (by rw[h];rfl));have H:=Hd h;clear h hE
 go_enter Tryz.func85,Tryz.ntmps85
 go_wp2_with (go_at_call 112;(with_reducible refine HF.out.mono ?_);rintro e w1 ⟨rfl,hb1⟩)
 go_ret3
 exact zmD H.out hb1
theorem zef (t:Ty)(w:World)(hE:TE w)(h:tyS (tyB t)=some t)(h1:headT t≠102)(hf:isFnT t=false):Calls Tryz.prog 85 #[.string (tyB t)] w (zhL (some t) w):=by
 have HF:=Hd (zjb true (tyB t) w hE (by rw[h];rfl));have HN:=Hd hf;obtain⟨h0,hc⟩:=zau t;have t1:(((tyB t)[0].toNat:Int) != 102)=true:=zum (d:=102) hc h1;generalize tyB t=s at *;clear h hE hc h1 hf
 go_enter Tryz.func85,Tryz.ntmps85
 go_wp2_with (go_at_call 112;(with_reducible refine HF.out.mono ?_);rintro e w1 ⟨rfl,hb1⟩)
 go_ret3
 exact zgM HN.out hb1
theorem zua (ps:List Ty)(r:Ty)(w:World)(hE:TE w)(h:tyS (tyB (.fn ps r))=some (.fn ps r)):Calls Tryz.prog 85 #[.string (tyB (.fn ps r))] w (zhL (some (.fn ps r)) w):=by
 have HE:=Hd hE;obtain⟨_,hr,hl⟩:=zaW.1 h;have HF:=Hd (zjb true (tyB (.fn ps r)) w hE (by rw[h];rfl));have HS:=Hd (fun w hK hb=>ziQ ps r w hr hl hK hb);obtain⟨h0,hc⟩:=zau (.fn ps r);have t1:(((tyB (.fn ps r))[0].toNat:Int) != 102)=false:=zsJ hc;generalize tyB (.fn ps r)=s at *;clear h hE hc hr hl
 go_enter Tryz.func85,Tryz.ntmps85
 go_wp2_with (first|(go_at_call 112;(with_reducible refine HF.out.mono ?_);rintro e w1 ⟨rfl,hb1⟩;have HE1:=Hd (HE.out.below hb1))|(go_at_call 113;(with_reducible refine(HS.out _ HE1.out.keys HE1.out.lt).mono ?_);rintro e w2 ⟨⟨v,rfl,ho⟩,hb2⟩;have HO:=Hd ho;clear ho))
 go_ret3
 exact⟨⟨v,rfl,zlH HO.out hb1.size⟩,hb1.trans (hb2.mono hb1.size)⟩
theorem zlm (s:ByteArray)(w:World)(hE:TE w):Calls Tryz.prog 85 #[.string s] w (zhL (tyS s) w):=by
 rcases h:tyS s with _|t
 ·rw[← h];exact zpr s w hE h
 ·obtain⟨rfl,hr,_⟩:=zaW.1 h
  cases t with
  | fn ps r=>exact zua ps r w hE h
  | base c=>exact zef _ w hE h (by rcases zaM hr with rfl|rfl|rfl|rfl|rfl|rfl<;>decide) rfl
  | str n=>exact zef _ w hE h (by simp[headT]) rfl
  | ptr u=>exact zef _ w hE h (by simp[headT]) rfl
  | arr n u=>exact zef _ w hE h (by simp[headT]) rfl
set_option maxHeartbeats 4000000
theorem zad {w:World}{b:Nat}{a0 a1 a2 a3 a4:Value}{T:TypeId}(h:w.heap[b]?=some (.cells #[a0,a1,a2,a3,a4] T (0,0))) :
 (w.cell? ⟨b,0,none⟩=some a0∧w.cell? ⟨b,1,none⟩=some a1∧w.cell? ⟨b,2,none⟩=some a2∧w.cell? ⟨b,3,none⟩=some a3∧w.cell? ⟨b,4,none⟩=some a4)∧∀j,w.frozen? ⟨b,j,none⟩=false:=by
 refine⟨⟨?_,?_,?_,?_,?_⟩,fun j=>?_⟩<;>simp[World.cell?,World.frozen?,h]
theorem zac {w:World}{b:Nat}{a0 a1 a2:Value}{T:TypeId}(h:w.heap[b]?=some (.cells #[a0,a1,a2] T (0,0))) :
 (w.cell? ⟨b,0,none⟩=some a0∧w.cell? ⟨b,1,none⟩=some a1∧w.cell? ⟨b,2,none⟩=some a2)∧∀j,w.frozen? ⟨b,j,none⟩=false:=by
 refine⟨⟨?_,?_,?_⟩,fun j=>?_⟩<;>simp[World.cell?,World.frozen?,h]
abbrev fnUV (f:FnU)(vp vb:Value):Value:=.agg #[.int .i64 f.at_,.string f.name,.string f.type,vp,vb]
abbrev glUV (g:GlU)(v:Value):Value:=.agg #[.int .i64 g.at_,.string g.var.name,.string g.var.type,.bool g.var.vol,v]
def zav (c:Int)(w:World)(e:Ending)(w':World):Prop:=e=.returned (.int .i64 c)∧Below w.heap.size w w'
theorem zaq {c d:Int}{w w':World}(h:c=d)(hb:Below w.heap.size w w'):zav c w (.returned (.int .i64 d)) w':=⟨by rw[h],hb⟩
theorem zbH {L:List Sr}{f:FnU}(h:zdu L f=false):funcE L f=90:=by
 unfold funcE
 split
 ·rw[if_pos (.inl h)]
 ·rfl
theorem zfP {L:List Sr}{f:FnU}(h:∀ps r,tyS f.type≠some (.fn ps r)):funcE L f=90:=by
 unfold funcE
 split
 ·rename_i ps r e;exact absurd e (h ps r)
 ·rfl
theorem zr7 {s:ByteArray}{w:World}(hE:TE w)(h:∀ps r,tyS s≠some (.fn ps r)):Calls Tryz.prog 85 #[.string s] w fun e w'=>(∃s v c,e=.returned (.tuple #[.string s,v,.int .i64 c])∧(c != 0)=true)∧Below w.heap.size w w':=by
 refine(zlm s w hE).mono fun e w' ⟨h1,h2⟩=>⟨?_,h2⟩
 rcases ht:tyS s with _|t
 ·rw[ht]at h1
  exact⟨_,_,2,h1,rfl⟩
 ·rw[ht]at h1
  cases t with
  | fn ps r=>exact absurd ht (h ps r)
  | _=>exact⟨_,_,5,h1,rfl⟩
theorem zgL {s:ByteArray}{w:World}{ps:List Ty}{r:Ty}(hE:TE w)(h:tyS s=some (.fn ps r)):Calls Tryz.prog 85 #[.string s] w fun e w'=>(∃a cap,e=.returned (.tuple #[.string (tyB r),.slice a ps.length cap,.int .i64 0])∧∀i (hi:i<ps.length),∃g,a=some ⟨g,0,none⟩∧g<w'.heap.size∧w'.cell? ⟨g,i,none⟩=some (.string (tyB ps[i])))∧Below w.heap.size w w':=by
 have:=zlm s w hE;rw[h]at this;refine this.mono fun e w' ⟨⟨v,he,ho⟩,h2⟩=>⟨?_,h2⟩
 rcases ho.2 with ⟨rfl,h0⟩|⟨g,cap,cur,rfl,_,hg,_⟩
 ·refine⟨none,0,by rw[he,h0],fun i hi=>?_⟩
  omega
 ·refine⟨some ⟨g,0,none⟩,cap,he,fun i hi=>⟨g,rfl,zaa hg,?_⟩⟩
  rw[ho.cellAt i (by omega),List.getElem?_map,zv1 hi]
  rfl
theorem zaE (r:Bool)(s:ByteArray)(w:World)(hK:KeysAt w)(h:isNameB s=r):Calls Tryz.prog 80 #[.string s] w fun e w'=>e=.returned (.bool r)∧Below w.heap.size w w':=by
 subst h;exact zaZ s w hK
theorem ziS (s:ByteArray)(w:World)(hE:TE w):Calls Tryz.prog 85 #[.string s] w fun e w'=>(∃s v c,e=.returned (.tuple #[.string s,v,.int .i64 c]))∧Below w.heap.size w w':=by
 refine(zlm s w hE).mono fun e w' ⟨h1,h2⟩=>⟨?_,h2⟩
 rcases ht:tyS s with _|t
 ·rw[ht]at h1
  exact⟨_,_,_,h1⟩
 ·rw[ht]at h1
  cases t with
  | fn ps r=>
    obtain⟨v,he,_⟩:=h1;exact⟨_,_,_,he⟩
  | _=>exact⟨_,_,_,h1⟩
theorem zoE (f:FnU)(vp vb:Value)(l:Option Addr)(lc:Nat)(L:List Sr)(mv:List Value)(w:World)(hE:TE w)(hF:IsFnU w.heap.size w f vp vb)(hS:IsSrs w.heap.size w l L mv)(hn:isNameB f.name=false) :
 Calls Tryz.prog 56 #[fnUV f vp vb,.slice l L.length lc] w (zav (funcE L f) w):=by
 have hfin:funcE L f=90:=zbH (by unfold zdu;rw[hn];rfl);have HNm:=Hd (fun w (hK:KeysAt w)=>zaE false f.name w hK hn);obtain⟨fat,fname,ftype,fparams,fbody⟩:=f;simp only[fnUV]at *
 go_enter Tryz.func56,Tryz.ntmps56
 go_upto_region 1 with fail
 generalize hgQ:w.alloc (.cells #[.int .i64 fat,.string fname,.string ftype,vp,vb] 45)=w0 at *;obtain⟨hx0,hb0⟩:=box0 hgQ;clear hgQ;have HNd:=Hd (fun w' (h:Below w0.heap.size w0 w')=>(zad ((h.block _ (zaa hx0)).trans hx0)).1);have HB0:=Hd hb0;have HEx:=Hd (fun w' (h:Below w0.heap.size w0 w')=>hE.below (hb0.trans (h.mono hb0.size)));have HSx:=Hd (fun w' (h:Below w0.heap.size w0 w')=>(hS.below (hb0.trans (h.mono hb0.size))).mono (hb0.trans (h.mono hb0.size)).size);have HSg:=Hd (ziS ftype w0 (HEx.out w0 (zv3 _ _)));obtain⟨x0,x1,x2,x3,x4⟩:=HNd.out w0 (zv3 _ _);have HFin:=Hd hfin;clear hE hF hS hx0 hb0 hfin
 go_wp2_with (first
  | (go_at_call 85;(with_reducible refine HSg.out.mono ?_);rintro e w1 ⟨⟨s1,v1,c1,rfl⟩,hb1⟩;have HB1:=Hd (hb1);obtain⟨x0,x1,x2,x3,x4⟩:=HNd.out w1 HB1.out;have HN1:=Hd (HNm.out w1 (HEx.out w1 HB1.out).keys);clear hb1)
  | (go_at_call 80;(with_reducible refine HN1.out.mono ?_);rintro e w2 ⟨rfl,hb2⟩;have HB2:=Ht HB1 hb2;obtain⟨x0,x1,x2,x3,x4⟩:=HNd.out w2 HB2.out;clear hb2))
 go_ret;exact zaq HFin.out (HB0.out.trans (HB2.out.mono HB0.out.size))
theorem ztl (f:FnU)(vp vb:Value)(l:Option Addr)(lc:Nat)(L:List Sr)(mv:List Value)(w:World)(hE:TE w)(hF:IsFnU w.heap.size w f vp vb)(hS:IsSrs w.heap.size w l L mv)(hn:isNameB f.name=true)(ha:f.at_<0) :
 Calls Tryz.prog 56 #[fnUV f vp vb,.slice l L.length lc] w (zav (funcE L f) w):=by
 have hfin:funcE L f=90:=zbH (by unfold zdu;rw[hn,decide_eq_false (by omega)];rfl);have HNm:=Hd (fun w (hK:KeysAt w)=>zaE true f.name w hK hn);obtain⟨fat,fname,ftype,fparams,fbody⟩:=f;simp only[fnUV]at *
 go_enter Tryz.func56,Tryz.ntmps56
 go_upto_region 1 with fail
 generalize hgQ:w.alloc (.cells #[.int .i64 fat,.string fname,.string ftype,vp,vb] 45)=w0 at *;obtain⟨hx0,hb0⟩:=box0 hgQ;clear hgQ;have HNd:=Hd (fun w' (h:Below w0.heap.size w0 w')=>(zad ((h.block _ (zaa hx0)).trans hx0)).1);have HB0:=Hd hb0;have HEx:=Hd (fun w' (h:Below w0.heap.size w0 w')=>hE.below (hb0.trans (h.mono hb0.size)));have HSx:=Hd (fun w' (h:Below w0.heap.size w0 w')=>(hS.below (hb0.trans (h.mono hb0.size))).mono (hb0.trans (h.mono hb0.size)).size);have HSg:=Hd (ziS ftype w0 (HEx.out w0 (zv3 _ _)));obtain⟨x0,x1,x2,x3,x4⟩:=HNd.out w0 (zv3 _ _);have HFin:=Hd hfin;have t1:decide (fat<0)=true:=by simpa using ha
 clear hE hF hS hx0 hb0 hfin ha
 go_wp2_with (first
  | (go_at_call 85;(with_reducible refine HSg.out.mono ?_);rintro e w1 ⟨⟨s1,v1,c1,rfl⟩,hb1⟩;have HB1:=Hd (hb1);obtain⟨x0,x1,x2,x3,x4⟩:=HNd.out w1 HB1.out;have HN1:=Hd (HNm.out w1 (HEx.out w1 HB1.out).keys);clear hb1)
  | (go_at_call 80;(with_reducible refine HN1.out.mono ?_);rintro e w2 ⟨rfl,hb2⟩;have HB2:=Ht HB1 hb2;obtain⟨x0,x1,x2,x3,x4⟩:=HNd.out w2 HB2.out;clear hb2))
 go_ret;exact zaq HFin.out (HB0.out.trans (HB2.out.mono HB0.out.size))
theorem ztm (f:FnU)(vp vb:Value)(l:Option Addr)(lc:Nat)(L:List Sr)(mv:List Value)(w:World)(hE:TE w)(hF:IsFnU w.heap.size w f vp vb)(hS:IsSrs w.heap.size w l L mv)(hn:isNameB f.name=true)(ha:¬f.at_<0)(ha2:65536<f.at_) :
 Calls Tryz.prog 56 #[fnUV f vp vb,.slice l L.length lc] w (zav (funcE L f) w):=by
 have hfin:funcE L f=90:=zbH (by unfold zdu;rw[hn,decide_eq_false (by omega)];rfl);have HNm:=Hd (fun w (hK:KeysAt w)=>zaE true f.name w hK hn);obtain⟨fat,fname,ftype,fparams,fbody⟩:=f;simp only[fnUV]at *
 go_enter Tryz.func56,Tryz.ntmps56
 go_upto_region 1 with fail
 generalize hgQ:w.alloc (.cells #[.int .i64 fat,.string fname,.string ftype,vp,vb] 45)=w0 at *;obtain⟨hx0,hb0⟩:=box0 hgQ;clear hgQ;have HNd:=Hd (fun w' (h:Below w0.heap.size w0 w')=>(zad ((h.block _ (zaa hx0)).trans hx0)).1);have HB0:=Hd hb0;have HEx:=Hd (fun w' (h:Below w0.heap.size w0 w')=>hE.below (hb0.trans (h.mono hb0.size)));have HSx:=Hd (fun w' (h:Below w0.heap.size w0 w')=>(hS.below (hb0.trans (h.mono hb0.size))).mono (hb0.trans (h.mono hb0.size)).size);have HSg:=Hd (ziS ftype w0 (HEx.out w0 (zv3 _ _)));obtain⟨x0,x1,x2,x3,x4⟩:=HNd.out w0 (zv3 _ _);have HFin:=Hd hfin;have t1:decide (fat<0)=false:=by simpa using ha
 have t2:decide (65536<fat)=true:=by simpa using ha2
 clear hE hF hS hx0 hb0 hfin ha ha2
 go_wp2_with (first
  | (go_at_call 85;(with_reducible refine HSg.out.mono ?_);rintro e w1 ⟨⟨s1,v1,c1,rfl⟩,hb1⟩;have HB1:=Hd (hb1);obtain⟨x0,x1,x2,x3,x4⟩:=HNd.out w1 HB1.out;have HN1:=Hd (HNm.out w1 (HEx.out w1 HB1.out).keys);clear hb1)
  | (go_at_call 80;(with_reducible refine HN1.out.mono ?_);rintro e w2 ⟨rfl,hb2⟩;have HB2:=Ht HB1 hb2;obtain⟨x0,x1,x2,x3,x4⟩:=HNd.out w2 HB2.out;clear hb2))
 go_ret;exact zaq HFin.out (HB0.out.trans (HB2.out.mono HB0.out.size))
theorem zqO (f:FnU)(vp vb:Value)(l:Option Addr)(lc:Nat)(L:List Sr)(mv:List Value)(w:World)(hE:TE w)(hF:IsFnU w.heap.size w f vp vb)(hS:IsSrs w.heap.size w l L mv)(hn:isNameB f.name=true)(ha:¬f.at_<0)(ha2:¬65536<f.at_)(hs:∀ps r,tyS f.type≠some (.fn ps r)) :
 Calls Tryz.prog 56 #[fnUV f vp vb,.slice l L.length lc] w (zav (funcE L f) w):=by
 have hfin:funcE L f=90:=zfP hs;have HNm:=Hd (fun w (hK:KeysAt w)=>zaE true f.name w hK hn);obtain⟨fat,fname,ftype,fparams,fbody⟩:=f;simp only[fnUV]at *
 go_enter Tryz.func56,Tryz.ntmps56
 go_upto_region 1 with fail
 generalize hgQ:w.alloc (.cells #[.int .i64 fat,.string fname,.string ftype,vp,vb] 45)=w0 at *;obtain⟨hx0,hb0⟩:=box0 hgQ;clear hgQ;have HNd:=Hd (fun w' (h:Below w0.heap.size w0 w')=>(zad ((h.block _ (zaa hx0)).trans hx0)).1);have HB0:=Hd hb0;have HEx:=Hd (fun w' (h:Below w0.heap.size w0 w')=>hE.below (hb0.trans (h.mono hb0.size)));have HSx:=Hd (fun w' (h:Below w0.heap.size w0 w')=>(hS.below (hb0.trans (h.mono hb0.size))).mono (hb0.trans (h.mono hb0.size)).size);have HSg:=Hd (zr7 (HEx.out w0 (zv3 _ _)) hs);obtain⟨x0,x1,x2,x3,x4⟩:=HNd.out w0 (zv3 _ _);have HFin:=Hd hfin;have t1:decide (fat<0)=false:=by simpa using ha
 have t2:decide (65536<fat)=false:=by simpa using ha2
 clear hE hF hS hx0 hb0 hfin ha ha2 hs
 go_wp2_with (first
  | (go_at_call 85;(with_reducible refine HSg.out.mono ?_);rintro e w1 ⟨⟨s1,v1,c1,rfl,hc1⟩,hb1⟩;have HB1:=Hd (hb1);obtain⟨x0,x1,x2,x3,x4⟩:=HNd.out w1 HB1.out;have HN1:=Hd (HNm.out w1 (HEx.out w1 HB1.out).keys);clear hb1)
  | (go_at_call 80;(with_reducible refine HN1.out.mono ?_);rintro e w2 ⟨rfl,hb2⟩;have HB2:=Ht HB1 hb2;obtain⟨x0,x1,x2,x3,x4⟩:=HNd.out w2 HB2.out;clear hb2))
 go_ret;exact zaq HFin.out (HB0.out.trans (HB2.out.mono HB0.out.size))
theorem zdx (c:Int)(s:ByteArray)(a:Option Addr)(cap:Nat)(L:List Sr)(mv:List Value)(w:World)(hE:TE w)(hS:IsSrs w.heap.size w a L mv)(h:checkN L s=c) :
 Calls Tryz.prog 81 #[.string s,.slice a L.length cap] w fun e w'=>e=.returned (.int .i64 c)∧Below w.heap.size w w':=by subst h;exact zeY s a cap L mv w hE hS
theorem zl7 (f:FnU)(vp vb:Value)(l:Option Addr)(lc:Nat)(L:List Sr)(mv:List Value)(w:World)(hE:TE w)(hF:IsFnU w.heap.size w f vp vb)(hS:IsSrs w.heap.size w l L mv)(hn:isNameB f.name=true)(ha:¬f.at_<0)(ha2:¬65536<f.at_){ps:List Ty}{r:Ty}(hs:tyS f.type=some (.fn ps r))(hc:checkN L f.type≠0) :
 Calls Tryz.prog 56 #[fnUV f vp vb,.slice l L.length lc] w (zav (funcE L f) w):=by
 have hfin:funcE L f=90:=zbH (by unfold zdu;rw[decide_eq_false hc];simp);have HNm:=Hd (fun w (hK:KeysAt w)=>zaE true f.name w hK hn);obtain⟨fat,fname,ftype,fparams,fbody⟩:=f;simp only[fnUV]at *
 go_enter Tryz.func56,Tryz.ntmps56
 go_upto_region 1 with fail
 generalize hgQ:w.alloc (.cells #[.int .i64 fat,.string fname,.string ftype,vp,vb] 45)=w0 at *;obtain⟨hx0,hb0⟩:=box0 hgQ;clear hgQ;have HNd:=Hd (fun w' (h:Below w0.heap.size w0 w')=>(zad ((h.block _ (zaa hx0)).trans hx0)).1);have HB0:=Hd hb0;have HEx:=Hd (fun w' (h:Below w0.heap.size w0 w')=>hE.below (hb0.trans (h.mono hb0.size)));have HSx:=Hd (fun w' (h:Below w0.heap.size w0 w')=>(hS.below (hb0.trans (h.mono hb0.size))).mono (hb0.trans (h.mono hb0.size)).size);have HSg:=Hd (zgL (HEx.out w0 (zv3 _ _)) hs);have HCk:=Hd (fun w' (h:Below w0.heap.size w0 w')=>zeY ftype l lc L mv w' (HEx.out w' h) (HSx.out w' h));obtain⟨x0,x1,x2,x3,x4⟩:=HNd.out w0 (zv3 _ _);have HFin:=Hd hfin;have t3:(checkN L ftype != 0)=true:=by simpa using hc
 have t1:decide (fat<0)=false:=by simpa using ha
 have t2:decide (65536<fat)=false:=by simpa using ha2
 clear hE hF hS hx0 hb0 hfin ha ha2 hs hc;generalize checkN L ftype=cc at *
 go_wp2_with (first
  | (go_at_call 85;(with_reducible refine HSg.out.mono ?_);rintro e w1 ⟨⟨pa,pc,rfl,hpr⟩,hb1⟩;have HB1:=Hd (hb1);obtain⟨x0,x1,x2,x3,x4⟩:=HNd.out w1 HB1.out;have HPr:=Hd hpr;have HN1:=Hd (HNm.out w1 (HEx.out w1 HB1.out).keys);clear hb1)
  | (go_at_call 80;(with_reducible refine HN1.out.mono ?_);rintro e w2 ⟨rfl,hb2⟩;have HB2:=Ht HB1 hb2;obtain⟨x0,x1,x2,x3,x4⟩:=HNd.out w2 HB2.out;have HC2:=Hd (HCk.out w2 HB2.out);clear hb2)
  | (go_at_call 81;(with_reducible refine HC2.out.mono ?_);rintro e w3 ⟨rfl,hb3⟩;have HB3:=Ht HB2 hb3;obtain⟨x0,x1,x2,x3,x4⟩:=HNd.out w3 HB3.out;clear hb3))
 go_ret;exact zaq HFin.out (HB0.out.trans (HB3.out.mono HB0.out.size))
theorem zqN (f:FnU)(vp vb:Value)(l:Option Addr)(lc:Nat)(L:List Sr)(mv:List Value)(w:World)(hE:TE w)(hF:IsFnU w.heap.size w f vp vb)(hS:IsSrs w.heap.size w l L mv)(hn:isNameB f.name=true)(ha:¬f.at_<0)(ha2:¬65536<f.at_){ps:List Ty}{r:Ty}(hs:tyS f.type=some (.fn ps r))(hc:checkN L f.type=0)(hl:ps.length≠f.params.length) :
 Calls Tryz.prog 56 #[fnUV f vp vb,.slice l L.length lc] w (zav (funcE L f) w):=by
 have hfin:funcE L f=90:=by
  unfold funcE;rw[hs];exact if_pos (.inr hl)
 obtain⟨ap,cp,rfl,hsp,hsl,hvo⟩:=hF.params;have HNm:=Hd (fun w (hK:KeysAt w)=>zaE true f.name w hK hn);obtain⟨fat,fname,ftype,fparams,fbody⟩:=f;simp only[fnUV]at *
 go_enter Tryz.func56,Tryz.ntmps56
 go_upto_region 1 with fail
 generalize hgQ:w.alloc (.cells #[.int .i64 fat,.string fname,.string ftype,.slice ap fparams.length cp,vb] 45)=w0 at *;obtain⟨hx0,hb0⟩:=box0 hgQ;clear hgQ;have HNd:=Hd (fun w' (h:Below w0.heap.size w0 w')=>(zad ((h.block _ (zaa hx0)).trans hx0)).1);have HB0:=Hd hb0;have HEx:=Hd (fun w' (h:Below w0.heap.size w0 w')=>hE.below (hb0.trans (h.mono hb0.size)));have HSx:=Hd (fun w' (h:Below w0.heap.size w0 w')=>(hS.below (hb0.trans (h.mono hb0.size))).mono (hb0.trans (h.mono hb0.size)).size);have HSg:=Hd (zgL (HEx.out w0 (zv3 _ _)) hs);have HCk:=Hd (fun w' (h:Below w0.heap.size w0 w')=>zdx 0 ftype l lc L mv w' (HEx.out w' h) (HSx.out w' h) hc);obtain⟨x0,x1,x2,x3,x4⟩:=HNd.out w0 (zv3 _ _);have HFin:=Hd hfin;have t3:((ps.length:Int) != (fparams.length:Int))=true:=by simp;omega
 have t1:decide (fat<0)=false:=by simpa using ha
 have t2:decide (65536<fat)=false:=by simpa using ha2
 clear hE hF hS hx0 hb0 hfin ha ha2 hs hc hl
 go_wp2_with (first
  | (go_at_call 85;(with_reducible refine HSg.out.mono ?_);rintro e w1 ⟨⟨pa,pc,rfl,hpr⟩,hb1⟩;have HB1:=Hd (hb1);obtain⟨x0,x1,x2,x3,x4⟩:=HNd.out w1 HB1.out;have HPr:=Hd hpr;have HN1:=Hd (HNm.out w1 (HEx.out w1 HB1.out).keys);clear hb1)
  | (go_at_call 80;(with_reducible refine HN1.out.mono ?_);rintro e w2 ⟨rfl,hb2⟩;have HB2:=Ht HB1 hb2;obtain⟨x0,x1,x2,x3,x4⟩:=HNd.out w2 HB2.out;have HC2:=Hd (HCk.out w2 HB2.out);clear hb2)
  | (go_at_call 81;(with_reducible refine HC2.out.mono ?_);rintro e w3 ⟨rfl,hb3⟩;have HB3:=Ht HB2 hb3;obtain⟨x0,x1,x2,x3,x4⟩:=HNd.out w3 HB3.out;clear hb3))
 go_ret;exact zaq HFin.out (HB0.out.trans (HB3.out.mono HB0.out.size))
end Go.Proofs.YtbbaooeioogijaaGreatDoor
