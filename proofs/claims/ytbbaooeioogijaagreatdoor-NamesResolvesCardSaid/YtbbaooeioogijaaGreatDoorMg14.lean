/- The names of a file handed out: the program. -/
import Derived.Test.YtbbaooeioogijaaGreatDoorFiled
import Derived.RangeFuncNested
import Derived.RangeFuncBound
import Derived.RangeFuncCalls
import Derived.RangeFuncLeaves
import Derived.Shelf.Abstract
import Derived.OwnWalkIn
import Derived.TacticsInMore
import Derived.LoopNIn
import Derived.LoopIn
namespace Go.Proofs.YtbbaooeioogijaaGreatDoor
open Go.RowKit Go.Maps
def zrB (u:UnU)(w:World)(e:Ending)(w':World):Prop:=Below w.heap.size w w'∧match za1 u with
 | .inl p=>e=.returned (.tuple #[.slice none 0 0,.slice none 0 0,.agg #[.int .i64 p.1,.int .i64 p.2]])
 | .inr s=>∃sv av,e=.returned (.tuple #[sv,av,.agg #[.int .i64 0,.int .i64 0]])∧w'.ownsRow w.heap.size 78 3 sv s.ents.length (s.ents.flatMap fun e=>bndCells e.2)∧w'.ownsRow w.heap.size 9 1 av s.ents.length (s.ents.map fun e=>.string e.1)
theorem zkE:∀{L:List GlU} {i:Nat} {s:FileN} {p:Int × Int},zaY L i s=.inl p→p.2≠0
 | [],i,s,p,h=>by cases h
 | g :: r,i,s,p,h=>by
   rw[zaY]at h
   split at h
   ·obtain rfl:=Sum.inl.inj h
    show (6:Int)≠0;decide
   ·exact zkE h
theorem zkJ:∀{L:List FnU} {s:FileN} {p:Int × Int},zaP L s=.inl p→p.2≠0
 | [],s,p,h=>by cases h
 | g :: r,s,p,h=>by
   rw[zaP]at h
   split at h
   ·rename_i e
    cases h;exact zpX e
   ·exact zkJ h
theorem zgy {u:UnU}{p:Int × Int}(h:za1 u=.inl p):p.2≠0:=by
 unfold za1 at h
 split at h
 ·rename_i h1;cases h;exact h1
 ·split at h
  ·rename_i e;cases h;exact zkE e
  ·exact zkJ h
theorem za4 {w w':World}{A B:Nat}{T:TypeId}{k n:Nat}{v:Value}{xs:List Value}(h:w.ownsRow B T k v n xs)(hA:A≤B)(hw:∀k,B≤k→w'.heap[k]?=w.heap[k]?):w'.ownsRow A T k v n xs:=by
 obtain⟨h1,h2⟩:=h;refine⟨h1,?_⟩;rcases h2 with h2|⟨g,cap,cur,e,hb,hg,h3⟩
 ·exact .inl h2
 ·exact .inr ⟨g,cap,cur,e,zv6 hA hb,(hw g hb).trans hg,h3⟩
theorem FileM.open {A B b mb:Nat}{w:World}{s:FileN}(h:FileM A B w b mb s):∃sv av:Value,(w.cell? ⟨b,1,none⟩=some sv∧w.cell? ⟨b,2,none⟩=some av)∧∀w':World,(∀k,B≤k→w'.heap[k]?=w.heap[k]?)→w'.ownsRow A 78 3 sv s.ents.length (s.ents.flatMap fun e=>bndCells e.2)∧w'.ownsRow A 9 1 av s.ents.length (s.ents.map fun e=>.string e.1):=by
 obtain⟨hA,lv,sv,av,Q,n,hR,_⟩:=h;exact⟨sv,av,⟨hR.cells.1.2.1,hR.cells.1.2.2.1⟩,fun w' hw=>⟨za4 hR.sizes hA hw,za4 hR.aligns hA hw⟩⟩
end Go.Proofs.YtbbaooeioogijaaGreatDoor
namespace Go.Proofs.YtbbaooeioogijaaGreatDoor
open Go.RowKit Go.Shelf
attribute [local go_sem] Oper.semAt_some
theorem zox {W W':World}(h:Below W.heap.size W W'):W.grownBy W' none:=⟨h.os,h.tape,h.output,h.size,fun k hk _=>h.block k hk⟩
theorem zgk {β:Type}{B:Nat}{J:β→World→Prop}(h:AbidesFrom B J){s:β}{W W':World}(hs:J s W)(hb:Below W.heap.size W W'):J s W':=h s W W' none hs (zox hb) (fun _ e=>by cases e)
theorem zeQ {w:World}{base:Nat}{v:Value}{L:List Nat}(h:NatRow w base v L):∀(g off n cap:Nat),v=.slice (some ⟨g,off,none⟩) n cap→L.length≠0→base≤g:=fun g off n cap hv hn=>by
 obtain⟨g2,cap2,hv2,hb,_⟩:=h.far (fun e=>hn (by rw[e];rfl));rw[hv]at hv2;simp only[Value.slice.injEq,Option.some.injEq,Addr.mk.injEq]at hv2;omega
abbrev Elt (t:List Nd):Type:={ x:Nat × Nat // x.1<t.length }
def eltV {t:List Nd}(x:Elt t):Array Value:=#[.int .i64 (x.1.1:Int),.int .i64 (x.1.2:Int)]
def elts {t:List Nd}(l:List (Elt t)):List (Nat × Nat):=l.map Subtype.val
theorem zji {t:List Nd}(l m:List (Elt t)):elts (l++m)=elts l++elts m:=List.map_append
theorem zni {t:List Nd}(l:List (Elt t)):(elts l).length=l.length:=List.length_map ..
def zdL (t:List Nd)(fr P:List Nat)(d i:Nat):List (Nat × Nat):=(P.take i).flatMap fun p=>walkN t fr p d
theorem zkQ {t:List Nd}{fr P:List Nat}{d i:Nat}(hi:i<P.length):zdL t fr P d (i+1)=zdL t fr P d i++walkN t fr P[i] d:=by
 unfold zdL;rw[List.take_succ_eq_append_getElem hi,List.flatMap_append];simp
theorem znj {t:List Nd}{fr P:List Nat}{d:Nat}:zdL t fr P d P.length=P.flatMap fun p=>walkN t fr p d:=by unfold zdL;rw[List.take_length]
theorem zjk {t:List Nd}{fr P:List Nat}{d i:Nat}:zdL t fr P d i <+: P.flatMap fun p=>walkN t fr p d:=by
 unfold zdL
 conv=>rhs;rw[← List.take_append_drop i P,List.flatMap_append]
 exact List.prefix_append ..
def zaz (t:List Nd)(fr:List Nat):List (Nat × Nat):=walkN t fr (t.length-1) 1
end Go.Proofs.YtbbaooeioogijaaGreatDoor
namespace Go.Proofs.YtbbaooeioogijaaGreatDoor
open Go.RowKit
set_option maxRecDepth 100000
theorem NdRow.opened {w:World}{base:Nat}{v:Value}{L:List Nd}(h:NdRow w base v L):∃a cap,v=.slice a L.length cap∧L.length≤cap∧cap≤maxLen∧zaV w.heap.size w a L∧(a=none→L=[]∧cap=0):=by
 obtain⟨a,cap,hv,hN,hn⟩:=zpM zg5 h rfl;refine⟨a,cap,hv,?_,?_,hN,hn⟩
 ·rcases h.2 with ⟨e,h0⟩|⟨g,c,cur,e,_,_,h1,_⟩
  ·omega
  ·rw[hv]at e;simp only[Value.slice.injEq]at e;omega
 ·rcases h.2 with ⟨e,h0⟩|⟨g,c,cur,e,_,_,_,h1,_⟩
  ·rw[hv]at e;simp only[Value.slice.injEq]at e;rw[e.2.2];exact Nat.zero_le _
  ·rw[hv]at e;simp only[Value.slice.injEq]at e;rw[e.2.2];exact h1
set_option maxHeartbeats 4000000
theorem zoQ (ad:Addr)(cap:Nat)(t:List Nd)(w:World)(hI:zaV w.heap.size w (some ad) t)(hz:t.length*64≤140737488351232) :
 Calls Tryz.prog 41 #[.slice (some ad) t.length cap] w fun e w'=>(∃v,e=.returned v∧NdRow w' w.heap.size v t)∧Below w.heap.size w w':=by
 obtain⟨i0,hi,hz0,hz1,hz2⟩:=info_parts ztR;have HI0:=Hd (And.intro hi (And.intro hz0 (And.intro hz1 hz2)));clear hi hz0 hz1 hz2;have HI:=Hd hI;have HL:=Hd (zfj zg5 t);clear hI;have hnl:=fun wx=>Lib.run_eql_slice_nil (P:=Tryz.prog) wx 43 47 (some ad) t.length cap 0 0 Tryz.underlying43
 simp only[Option.isNone_some]at hnl
 go_enter Tryz.func41,Tryz.ntmps41
 go_wp2_with (at_builtin;go_loud (refine wpList_append_own _ rfl _ _ _ rfl w.heap.size 47 i0 _ 6 64 Tryz.underlying43 HI0.out.1 HI0.out.2.1 HI0.out.2.2.1 HI0.out.2.2.2 rfl (by decide) _ 0 [] rfl (ziY _ (zv0 _)) ad t.length cap (t.flatMap zcG) rfl HL.out (ziR zg5 (HI.out.below (ba1 _ _) (zv0 _))) (ztO t) (by unfold maxLen;omega) (by omega) (ba1 _ _).size ?_))
 intro v' w' hown hgrow _
 go_wp2_with fail
 go_ret;refine⟨⟨v',rfl,by unfold NdRow;simpa using hown⟩,(ba1 _ _).grown hgrow (ba1 _ _).size (fun k hk=>by simp[Value.ownBlock]at hk;omega)⟩
theorem zrd (a:Option Addr)(cap:Nat)(t:List Nd)(w:World)(hI:zaV w.heap.size w a t)(hz:t.length*64≤140737488351232)(hnil:a=none→t=[]∧cap=0) :
 Calls Tryz.prog 41 #[.slice a t.length cap] w fun e w'=>(∃v,e=.returned v∧NdRow w' w.heap.size v t)∧Below w.heap.size w w':=by
 cases a with
 | none=>
   obtain⟨rfl,rfl⟩:=hnil rfl;clear hI hnil hz;have hnl:=fun wx=>Lib.run_eql_slice_nil (P:=Tryz.prog) wx 43 47 none 0 0 0 0 Tryz.underlying43
   simp only[Option.isNone_none]at hnl
   go_enter Tryz.func41,Tryz.ntmps41
   go_wp2_with fail
   go_ret;exact⟨⟨_,rfl,zvp _ _⟩,zv3 _ _⟩
 | some ad=>exact zoQ ad cap t w hI hz
def zvW (t:List Nd)(fr:List Nat)(B:Nat)(W:World)(bw:Nat):Prop:=
 ∃(a:Option Addr) (c:Nat) (b:Option Addr) (capb:Nat),B≤bw∧W.heap[bw]?=some (.cells #[.slice a t.length c,.slice b fr.length capb] 126 (0,0))∧zaV W.heap.size W a t∧zdm W.heap.size W b fr∧(∀g off,a=some ⟨g,off,none⟩→B≤g)∧∀g off,b=some ⟨g,off,none⟩→B≤g
theorem NdRow.far {w:World}{base:Nat}{v:Value}{L:List Nd}(h:NdRow w base v L):∀(g off n cap:Nat),v=.slice (some ⟨g,off,none⟩) n cap→base≤g:=fun g off n cap hv=>by
 subst hv;exact(World.ownsRow.lt h g rfl).1
section
variable (a:Option Addr) (cap:Nat) (t:List Nd) (w:World) (hE:TE w) (hI:zaV w.heap.size w a t) (hOk:∀x ∈ t,NdOk x) (hz:t.length*64≤140737488351232) (hnil:a=none→t=[]∧cap=0)
include hE hI hOk hz hnil
theorem znM (h:checkN9 t=0):Calls Tryz.prog 30 #[.slice a t.length cap] w fun e w'=>(∃(bw:Nat) (fr:List Nat),e=.returned (.tuple #[.func (.func 48) #[] #[.pointer (some ⟨bw,0,none⟩)],.int .i64 0])∧zah t=some fr∧Given t fr∧zvW t fr w.heap.size w' bw)∧Below w.heap.size w w':=by
 have HCl:=Hd (zrd a cap t w hI hz hnil);have HL:=Hd (fun a1 c1 w1 (hE:TE w1) (hI:zaV w1.heap.size w1 a1 t)=>zm2 a1 c1 t w1 hE hI hOk hz h);have HE:=Hd hE;clear hE hI hOk hnil h
 go_enter Tryz.func30,Tryz.ntmps30
 go_wp2_with (first|(go_at_call 41;(with_reducible refine HCl.out.mono ?_);rintro e w1 ⟨⟨v,rfl,hr⟩,hb1⟩;obtain⟨a1,c1,rfl,_,_,hN,_⟩:=hr.opened;have HN:=Hd hN;have HFr:=Hd hr.far;have HB1:=Hd hb1;have HL1:=Hd (HL.out a1 c1 w1 (HE.out.below hb1) hN);clear hr hN hb1)|(go_at_call 47;(with_reducible refine HL1.out.mono ?_);rintro e w2 ⟨⟨b,capb,fr,rfl,hbe,hG,hW,hf⟩,hb2⟩;have HBe:=Hd hbe;have HG:=Hd hG;have HW:=Hd hW;have HF:=Hd hf;have HB2:=Ht HB1 hb2;clear hbe hG hW hf hb2))
 go_ret2
 have hb3:=ba1 w2 (.cells #[.slice a1 t.length c1,.slice b fr.length capb] 126);have hW3:=HW.out.below hb3;exact⟨⟨_,fr,rfl,HBe.out,HG.out,a1,c1,b,capb,HB2.out.size,zv8 _ _,hW3.nds,hW3.nats,fun g off e=>HFr.out g off _ _ (by rw[e]),fun g off e=>zv6 HB1.out.size (HF.out g off e)⟩,HB2.out.trans (hb3.mono HB2.out.size)⟩
end
theorem zvD:(Tryz.prog.info? 50).map (fun i=>(i.zero,i.size,i.bytes))=some (some (.agg #[.string ⟨#[]⟩,.string ⟨#[]⟩,.bool false]),3,40):=by kernel_rfl
theorem zvf (t:List VrU):∀u ∈ t.flatMap zbK,u.oneCell'=true:=fun u hu=>by
 obtain⟨x,_,hx⟩:=List.mem_flatMap.1 hu;simp only[zbK,List.mem_cons,List.not_mem_nil,or_false]at hx;rcases hx with rfl|rfl|rfl<;>rfl
theorem zdk {w w':World}{b:Nat}(h:w'.heap[b]?=w.heap[b]?)(j:Nat):w'.cell? ⟨b,j,none⟩=w.cell? ⟨b,j,none⟩:=by
 unfold World.cell?;simp only[h]
def IsSlU {α:Type}(k:Nat)(cells:α→List Value)(P:Nat→Prop)(w:World)(a:Option Addr)(L:List α):Prop:=
 L≠[]→∃b off,a=some ⟨b,off,none⟩∧P b∧∀(i:Nat) t,L[i]?=some t→∀(j:Nat) u,(cells t)[j]?=some u→w.cell? ⟨b,off+i*k+j,none⟩=some u
def zdJ (P P':Nat→Prop)(w w':World):Prop:=∀b,P b→w'.heap[b]?=w.heap[b]?∧P' b
theorem IsSlU.keep {α:Type}{k:Nat}{cells:α→List Value}{P P':Nat→Prop}{w w':World}{a:Option Addr}{L:List α}(h:IsSlU k cells P w a L)(hk:zdJ P P' w w'):IsSlU k cells P' w' a L:=fun hn=>by
 obtain⟨b,off,e,hp,hc⟩:=h hn;exact⟨b,off,e,(hk b hp).2,fun i t ht j u hu=>by rw[zdk (hk b hp).1];exact hc i t ht j u hu⟩
theorem IsSlU.sl {α:Type}{k:Nat}{cells:α→List Value}{P:Nat→Prop}{w:World}{a:Option Addr}{L:List α}{B:Nat}(h:IsSlU k cells P w a L)(hP:∀b,P b→b<B):IsSl k cells B w a L:=fun hn=>by
 obtain⟨b,off,e,hp,hc⟩:=h hn;exact⟨b,off,e,hP b hp,hc⟩
theorem zds {α:Type}{k:Nat}{cells:α→List Value}(hk:∀a,(cells a).length=k){w:World}{base n:Nat}{T:TypeId}{v:Value}{L:List α}(h:w.ownsRow base T k v n (L.flatMap cells))(hn:n=L.length):∃a cap,v=.slice a L.length cap∧L.length≤cap∧cap≤maxLen∧IsSlU k cells (fun b=>v.ownBlock=some b∧base≤b∧b<w.heap.size) w a L∧(a=none→L.length=0∧cap=0):=by
 subst hn;rcases h.2 with ⟨rfl,h0⟩|⟨g,cap,cur,rfl,hb,hg,hn,hc,_⟩
 ·refine⟨none,0,by rw[h0],by omega,by decide,fun hne=>absurd (List.eq_nil_of_length_eq_zero h0) hne,fun _=>⟨h0,rfl⟩⟩
 ·exact⟨_,cap,rfl,hn,hc,fun hne=>⟨g,0,rfl,⟨rfl,hb,zaa hg⟩,fun i t ht j u hu=>by rw[Nat.zero_add];exact zfb hk h ht hu⟩,fun e=>by cases e⟩
abbrev OffU (B:Nat)(w:World)(v:Value):Nat→Prop:=fun b=>B≤b∧b<w.heap.size∧v.ownBlock≠some b
theorem zkz {B:Nat}{w w':World}{v:Value}{row:Option Nat}(hg:w.grownBy w' row)(hr:∀r,row=some r→r<B∨v.ownBlock=some r):zdJ (OffU B w v) (OffU B w' v) w w':=fun b ⟨h1,h2,h3⟩=>
 ⟨hg.block b h2 (fun e=>by rcases hr b e.symm with h|h;omega;exact h3 h),h1,zv5 h2 hg.size,h3⟩
theorem zou {B:Nat}{w w':World}{v v':Value}(hg:w.grownBy w' v.ownBlock)(hv:∀g,v'.ownBlock=some g→v.ownBlock=some g∨g=w.heap.size):zdJ (OffU B w v) (OffU B w' v') w w':=fun b ⟨h1,h2,h3⟩=>
 ⟨hg.block b h2 (fun e=>h3 e.symm),h1,zv5 h2 hg.size,fun e=>by
   rcases hv b e with h|h
   ·exact h3 h
   ·omega⟩
theorem zcU {w w':World}(row:Option Nat)(hb:Below w.heap.size w w'):w.grownBy w' row:=⟨hb.os,hb.tape,hb.output,hb.size,fun k hk _=>hb.block k hk⟩
def zvY (A B:Nat)(w:World)(b:Nat)(s:FileN)(lv:Value)(Q:List (FnU × Value × Value)):Prop:=w.cell? ⟨b,3,none⟩=some lv∧w.ownsRow B 45 5 lv s.funcs.length (Q.flatMap zaA)∧Q.map Prod.fst=s.funcs∧(∀q ∈ Q,IsFnU A w q.1 q.2.1 q.2.2)∧A≤B
theorem FileM.funs {A B b mb:Nat}{w:World}{s:FileN}(h:FileM A B w b mb s):∃lv Q,zvY A B w b s lv Q:=by
 obtain⟨hA,lv,sv,av,Q,n,hR,hQ,hF,_⟩:=h;exact⟨lv,Q,hR.cells.1.2.2.2,hR.list,hQ,hF,hA⟩
theorem zuJ (q:FnU × Value × Value)(h1:∃a n c,q.2.1=.slice a n c)(h2:∃a n c,q.2.2=.slice a n c):∀u ∈ zaA q,u.oneCell'=true:=fun u hu=>by
 obtain⟨a,n,c,e⟩:=h1;obtain⟨a2,n2,c2,e2⟩:=h2;simp only[zaA,e,e2,List.mem_cons,List.not_mem_nil,or_false]at hu;rcases hu with rfl|rfl|rfl|rfl|rfl<;>rfl
end Go.Proofs.YtbbaooeioogijaaGreatDoor
namespace Go.Proofs.YtbbaooeioogijaaGreatDoor
open Go.RowKit Go.Maps
set_option maxRecDepth 100000
def zaL (x:SlU):List Value:=[.string x.name,.string x.type,.bool x.vol,.bool x.param]
theorem zeZ (x:Bnd):(bndCells x).length=3:=rfl
structure ResM (B:Nat)(w:World)(rb:Nat)(f:FnU)(vp vb sv ov:Value)(r:ResN):Prop where
 blk:w.heap[rb]?=some (.cells #[.int .i64 f.at_,.string f.name,.string f.type,vp,vb,sv,ov,.int .i64 r.fault.1,.int .i64 r.fault.2] 88 (0,0))
 slots:w.ownsRow B 91 4 sv r.slots.length (r.slots.flatMap zaL)
 out:w.ownsRow B 78 3 ov r.out.length (r.out.flatMap bndCells)
 base:B≤rb
 apart:(∀k,sv.ownBlock=some k→k≠rb∧ov.ownBlock≠some k)∧(∀k,ov.ownBlock=some k→k≠rb)
def cntB (l:List ByteArray)(t:ByteArray):Int:=((l.countP fun q=>decide (q=t):Nat):Int)
structure ScM (B:Nat)(w:World)(c mb mt:Nat)(p:Value)(s:ScN):Prop where
 blk:w.heap[c]?=some (.cells #[.map (some mb),p,.map (some mt)] 113 (0,0))
 ents:MapB w mb s.ents.length (entB s.ents)
 taken:MapN w mt s.taken.length (cntB s.taken)
 base:B≤c∧B≤mb∧B≤mt
 ne:c≠mb∧c≠mt∧mb≠mt
def ChainM (fs:FileN)(P:Nat→Prop)(w:World):List ScN→Value→Prop
 | [],p=>∃c mb n,p=.pointer (some ⟨c,0,none⟩)∧P c∧P mb∧w.heap[c]?=some (.cells #[.map (some mb),.pointer none,.map none] 113 (0,0))∧MapB w mb n fs.look
 | s :: up,p=>∃c mb mt n p',p=.pointer (some ⟨c,0,none⟩)∧P c∧P mb∧w.heap[c]?=some (.cells #[.map (some mb),p',.map (some mt)] 113 (0,0))∧MapB w mb n (entB s.ents)∧ChainM fs P w up p'
theorem MapB.move {w w':World}{b n:Nat}{f:ByteArray→Option Bnd}(h:MapB w b n f)(e:w'.heap[b]?=w.heap[b]?):MapB w' b n f:=by
 obtain⟨D,⟨es,cl,h1,h2⟩,hv⟩:=h;exact⟨D,⟨es,cl,e.trans h1,h2⟩,hv⟩
theorem MapN.move {w w':World}{b n:Nat}{f:ByteArray→Int}(h:MapN w b n f)(e:w'.heap[b]?=w.heap[b]?):MapN w' b n f:=by
 obtain⟨D,⟨es,cl,h1,h2⟩,hv⟩:=h;exact⟨D,⟨es,cl,e.trans h1,h2⟩,hv⟩
theorem ChainM.keep {fs:FileN}{P P':Nat→Prop}{w w':World}(hk:∀k,P k→w'.heap[k]?=w.heap[k]?∧P' k):∀{L:List ScN} {p:Value},ChainM fs P w L p→ChainM fs P' w' L p
 | [],p,h=>by
   obtain⟨c,mb,n,e,hc,hm,hb,hn⟩:=h;exact⟨c,mb,n,e,(hk c hc).2,(hk mb hm).2,(hk c hc).1.trans hb,hn.move (hk mb hm).1⟩
 | s :: up,p,h=>by
   obtain⟨c,mb,mt,n,p',e,hc,hm,hb,hn,hu⟩:=h;exact⟨c,mb,mt,n,p',e,(hk c hc).2,(hk mb hm).2,(hk c hc).1.trans hb,hn.move (hk mb hm).1,ChainM.keep hk hu⟩
def VisT (rb mb mt:Nat)(sv ov:Value)(k:Nat):Prop:=k=rb∨k=mb∨k=mt∨sv.ownBlock=some k∨ov.ownBlock=some k
abbrev zo0 (w:World)(rb mb mt:Nat)(sv ov:Value)(k:Nat):Prop:=k<w.heap.size∧¬VisT rb mb mt sv ov k
structure VisM (B:Nat)(fs:FileN)(f:FnU)(vp vb:Value)(w:World)(rb c mb mt:Nat)(p ov sv:Value)(up:List ScN)(s:ScN)(r:ResN):Prop where
 res:ResM B w rb f vp vb sv ov r
 sc:ScM B w c mb mt p s
 chain:ChainM fs (zo0 w rb mb mt sv ov) w up p
 free:zo0 w rb mb mt sv ov c
 apart:(rb≠mb∧rb≠mt)∧(∀k,sv.ownBlock=some k→k≠mb∧k≠mt)∧(∀k,ov.ownBlock=some k→k≠mb∧k≠mt)
theorem zbG {w:World}{B:Nat}{T:TypeId}{k n:Nat}{v:Value}{xs:List Value}(h:w.ownsRow B T k v n xs){g:Nat}(hg:v.ownBlock=some g):g<w.heap.size:=(h.lt g hg).2
theorem ResM.lt {B:Nat}{w:World}{rb:Nat}{f:FnU}{vp vb sv ov:Value}{r:ResN}(h:ResM B w rb f vp vb sv ov r):rb<w.heap.size:=zaa h.blk
theorem ResM.below {B:Nat}{w w':World}{rb:Nat}{f:FnU}{vp vb sv ov:Value}{r:ResN}(h:ResM B w rb f vp vb sv ov r)(hb:Below w.heap.size w w'):ResM B w' rb f vp vb sv ov r:=
 ⟨(hb.block _ h.lt).trans h.blk,h.slots.belowed hb,h.out.belowed hb,h.base,h.apart⟩
theorem ScM.move {B:Nat}{w w':World}{c mb mt:Nat}{p:Value}{s:ScN}(h:ScM B w c mb mt p s)(h1:w'.heap[c]?=w.heap[c]?)(h2:w'.heap[mb]?=w.heap[mb]?)(h3:w'.heap[mt]?=w.heap[mt]?):ScM B w' c mb mt p s:=
 ⟨h1.trans h.blk,h.ents.move h2,h.taken.move h3,h.base,h.ne⟩
theorem ScM.below {B:Nat}{w w':World}{c mb mt:Nat}{p:Value}{s:ScN}(h:ScM B w c mb mt p s)(hb:Below w.heap.size w w'):ScM B w' c mb mt p s:=
 h.move (hb.block _ (zaa h.blk)) (hb.block _ h.ents.lt) (hb.block _ h.taken.lt)
theorem VisM.below {B:Nat}{fs:FileN}{f:FnU}{vp vb:Value}{w w':World}{rb c mb mt:Nat}{p ov sv:Value}{up:List ScN}{s:ScN}{r:ResN}(h:VisM B fs f vp vb w rb c mb mt p ov sv up s r)(hb:Below w.heap.size w w'):VisM B fs f vp vb w' rb c mb mt p ov sv up s r:=
 ⟨h.res.below hb,h.sc.below hb,h.chain.keep fun k hk=>⟨hb.block k hk.1,zv5 hk.1 hb.size,hk.2⟩,⟨zv5 h.free.1 hb.size,h.free.2⟩,h.apart⟩
theorem VisM.next {B:Nat}{fs:FileN}{f:FnU}{vp vb:Value}{w w':World}{rb c mb mt:Nat}{p ov sv sv':Value}{up:List ScN}{s s':ScN}{r r':ResN}(h:VisM B fs f vp vb w rb c mb mt p ov sv up s r)
 (hk:KeepU w w' (VisT rb mb mt sv ov)) (hs:w.heap.size≤w'.heap.size) (hv:∀k,sv'.ownBlock=some k→sv.ownBlock=some k∨w.heap.size≤k) (hr:ResM B w' rb f vp vb sv' ov r') (he:MapB w' mb s'.ents.length (entB s'.ents)) (ht:MapN w' mt s'.taken.length (cntB s'.taken)) :
 VisM B fs f vp vb w' rb c mb mt p ov sv' up s' r':=by
 have hfree:∀k,zo0 w rb mb mt sv ov k→w'.heap[k]?=w.heap[k]?∧zo0 w' rb mb mt sv' ov k:=fun k ⟨h1,h2⟩=>⟨hk k h1 h2,zv5 h1 hs,fun hT=>by
  rcases hT with e|e|e|e|e
  ·exact h2 (.inl e)
  ·exact h2 (.inr (.inl e))
  ·exact h2 (.inr (.inr (.inl e)))
  ·rcases hv k e with e|e
   ·exact h2 (.inr (.inr (.inr (.inl e))))
   ·omega
  ·exact h2 (.inr (.inr (.inr (.inr e))))⟩
 refine⟨hr,⟨(hfree c h.free).1.trans h.sc.blk,he,ht,h.sc.base,h.sc.ne⟩,h.chain.keep hfree,(hfree c h.free).2,h.apart.1,fun k e=>?_,h.apart.2.2⟩;rcases hv k e with e|e
 ·exact h.apart.2.1 k e
 ·have h1:=h.sc.ents.lt
  have h2:=h.sc.taken.lt;exact⟨by omega,by omega⟩
set_option maxHeartbeats 4000000
theorem zao {w:World}{b:Nat}{a0 a1 a2 a3 a4 a5 a6 a7 a8:Value}{T:TypeId}(h:w.heap[b]?=some (.cells #[a0,a1,a2,a3,a4,a5,a6,a7,a8] T (0,0))) :
 (w.cell? ⟨b,0,none⟩=some a0∧w.cell? ⟨b,1,none⟩=some a1∧w.cell? ⟨b,2,none⟩=some a2∧w.cell? ⟨b,3,none⟩=some a3∧w.cell? ⟨b,4,none⟩=some a4∧w.cell? ⟨b,5,none⟩=some a5∧w.cell? ⟨b,6,none⟩=some a6∧w.cell? ⟨b,7,none⟩=some a7∧w.cell? ⟨b,8,none⟩=some a8)∧∀j,w.frozen? ⟨b,j,none⟩=false:=by
 refine⟨⟨?_,?_,?_,?_,?_,?_,?_,?_,?_⟩,fun j=>?_⟩<;>simp[World.cell?,World.frozen?,h]
theorem ResM.fault {B:Nat}{w:World}{rb:Nat}{f:FnU}{vp vb sv ov:Value}{r:ResN}(h:ResM B w rb f vp vb sv ov r)(x c:Int):ResM B ((w.setCell ⟨rb,7,none⟩ (.int .i64 x)).setCell ⟨rb,8,none⟩ (.int .i64 c)) rb f vp vb sv ov ⟨r.slots,r.out,(x,c)⟩:=by
 refine⟨?_,zai (zai h.slots _ _ fun e=>(h.apart.1 rb e).1 rfl) _ _ fun e=>(h.apart.1 rb e).1 rfl,zai (zai h.out _ _ fun e=>h.apart.2 rb e rfl) _ _ fun e=>h.apart.2 rb e rfl,h.base,h.apart⟩;simp[World.setCell,Array.getElem?_modify,h.blk]
theorem zfq {B:Nat}{rb:Nat}{f:FnU}{vp vb sv ov:Value}{r:ResN}(x c:Int)(w:World)(h:ResM B w rb f vp vb sv ov r) :
 Calls Tryz.prog 63 #[.pointer (some ⟨rb,0,none⟩),.int .i64 x,.int .i64 c] w fun e w'=>e=.returned (.tuple #[])∧ResM B w' rb f vp vb sv ov (r.wrong x c)∧Below B w w'∧KeepU w w' (·=rb)∧w'.heap.size=w.heap.size:=by
 have HR:=Hd h;obtain⟨⟨k0,k1,k2,k3,k4,k5,k6,k7,k8⟩,kf⟩:=zao h.blk;have kf7:=kf 7;have kf8:=kf 8
 by_cases h0:r.fault.2=0
 ·rw[h0]at k8
  go_enter Tryz.func63,Tryz.ntmps63
  go_wp2_with fail
  refine bodyPost_end (results_none rfl _ _ _) rfl ?_;refine⟨rfl,?_,((zv3 B w).setCell (p:=⟨rb,7,none⟩) HR.out.base _).setCell (p:=⟨rb,8,none⟩) HR.out.base _,((KeepU.refl w (·=rb)).set ⟨rb,7,none⟩ _ rfl).set ⟨rb,8,none⟩ _ rfl,by simp⟩;unfold ResN.wrong;rw[if_pos h0];exact HR.out.fault x c
 ·have t1:(r.fault.2 == 0)=false:=by simpa using h0
  go_enter Tryz.func63,Tryz.ntmps63
  go_wp2_with fail
  refine bodyPost_end (results_none rfl _ _ _) rfl ?_;refine⟨rfl,?_,zv3 _ _,KeepU.refl _ _,rfl⟩;unfold ResN.wrong;rw[if_neg h0];exact HR.out
theorem zgB (p:Option Addr)(w:World):Calls Tryz.prog 42 #[.pointer p] w fun e w'=>e=.returned (.pointer (some ⟨w.heap.size+2,0,none⟩))∧ScM w.heap.size w' (w.heap.size+2) w.heap.size (w.heap.size+1) (.pointer p) ScN.new∧Below w.heap.size w w'∧w'.heap.size=w.heap.size+3:=by
 have hmm:=@run_makeMap Tryz.prog
 go_enter Tryz.func42,Tryz.ntmps42
 go_wp2_with fail
 go_ret;have h1:=ba1 w (.map #[] 0);have h2:=ba1 (w.alloc (.map #[] 0)) (.map #[] 0);have h3:=ba1 ((w.alloc (.map #[] 0)).alloc (.map #[] 0)) (.cells #[.map (some w.heap.size),.pointer p,.map (some (w.heap.size+1))] 113);have s1:(w.alloc (.map #[] 0)).heap.size=w.heap.size+1:=by simp
 have s2:((w.alloc (.map #[] 0)).alloc (.map #[] 0)).heap.size=w.heap.size+2:=by simp
 refine⟨rfl,⟨?_,?_,?_,⟨by omega,by omega,by omega⟩,⟨by omega,by omega,by omega⟩⟩,h1.trans ((h2.mono h1.size).trans (h3.mono (zv6 h1.size h2.size))),by simp⟩
 ·have:=zv8 ((w.alloc (.map #[] 0)).alloc (.map #[] 0)) (.cells #[.map (some w.heap.size),.pointer p,.map (some (w.heap.size+1))] 113)
  rw[s2]at this;exact this
 ·exact(((zm0 (w:=w)).below h2).below h3).same fun s=>rfl
 ·have:=(zsX (w:=w.alloc (.map #[] 0))).below h3
  rw[s1]at this;exact this
set_option maxHeartbeats 8000000
theorem ChainM.head {fs:FileN}{P:Nat→Prop}{w:World}{L:List ScN}{p:Value}(h:ChainM fs P w L p):∃c mb mv n p',p=.pointer (some ⟨c,0,none⟩)∧w.heap[c]?=some (.cells #[.map (some mb),p',mv] 113 (0,0))∧(match L with
  | []=>p'=.pointer none∧MapB w mb n fs.look
  | s :: up=>MapB w mb n (entB s.ents)∧ChainM fs P w up p'):=by
 cases L with
 | nil=>
   obtain⟨c,mb,n,e,_,_,hb,hn⟩:=h;exact⟨c,mb,_,n,_,e,hb,rfl,hn⟩
 | cons s up=>
   obtain⟨c,mb,mt,n,p',e,_,_,hb,hn,hu⟩:=h;exact⟨c,mb,_,n,p',e,hb,hn,hu⟩
theorem ChainM.ptr {fs:FileN}{P:Nat→Prop}{w:World}{L:List ScN}{p:Value}(h:ChainM fs P w L p):∃c,p=.pointer (some ⟨c,0,none⟩):=by
 obtain⟨c,_,_,_,_,e,_⟩:=h.head;exact⟨c,e⟩
def zmp (o:Option Bnd)(w:World)(e:Ending)(w':World):Prop:=e=.returned (.tuple #[bndV (o.getD bnd0),.bool o.isSome])∧Below w.heap.size w w'
def zrA (fs:FileN)(P:Nat→Prop)(n:ByteArray)(o:Option Bnd)(w:World)(m:Nat)(v:Value):Prop:=(∃L,ChainM fs P w L v∧zd9 fs L n=o∧L.length+1=m)∨(v=.pointer none∧o=none∧m=0)
theorem zqU {fs:FileN}{P:Nat→Prop}{L:List ScN}{p:Value}(n:ByteArray)(w:World)(h:ChainM fs P w L p)(hP:∀k,P k→k<w.heap.size)(hs:n.size≤maxLen) :
 Calls Tryz.prog 64 #[p,.string n] w (zmp (zd9 fs L n) w):=by
 have HC:=Hd h;have HP:=Hd hP;generalize ho:zd9 fs L n=o at *;have HO:=Hd ho;clear h hP ho;have hb0:=ba1 w (.cells #[.int .i64 0,.int .i64 0,.string ⟨#[]⟩] 78);have hx:=zv8 w (.cells #[.int .i64 0,.int .i64 0,.string ⟨#[]⟩] 78)
 go_enter Tryz.func64,Tryz.ntmps64
 go_wp2_with fail
 generalize w.alloc (.cells #[.int .i64 0,.int .i64 0,.string ⟨#[]⟩] 78)=w0 at *;have HB0:=Hd hb0;have HX:=Hd hx;have HZ:=Hd (zaa hx);clear hb0 hx
 go_loopg [0] (L.length+1) (fun m v0 wy=>Hid (zrA fs P n o wy m v0)∧Hid (Below w0.heap.size w0 wy))
 case atStart=>exact⟨Hd (.inl ⟨L,HC.out.keep fun k hk=>⟨HB0.out.block k (HP.out k hk),hk⟩,HO.out,rfl⟩),Hd (zv3 _ _)⟩
 case round=>
  obtain⟨HF,HB⟩:=hrel;obtain⟨⟨d0,d1,d2⟩,fd⟩:=zac ((HB.out.block _ HZ.out).trans HX.out);have fd0:=fd 0;have fd1:=fd 1;have fd2:=fd 2;have HBw:=Hd (HB0.out.trans (HB.out.mono HB0.out.size));have HBs:=Hd HB0.out.size;rcases HF.out with ⟨L',hch,hfo,hm⟩|⟨rfl,hoe,hm⟩
  ·obtain⟨c,mb,mv,nn,p',rfl,hblk,hrest⟩:=hch.head
   obtain⟨⟨k0,k1,k2⟩,_⟩:=zac hblk;have hcz:=zaa hblk;obtain⟨g,hg,hy,hn⟩:∃g:ByteArray→Option Bnd,MapB wr mb nn g∧(∀b,g n=some b→o=some b)∧(g n=none→∃m',m'<gk∧zrA fs P n o wr m' p'):=by
    cases L' with
    | nil=>
      obtain⟨rfl,hb⟩:=hrest;rw[zd9]at hfo;exact⟨_,hb,fun b e=>by rw[← hfo,e],fun e=>⟨0,by omega,.inr ⟨rfl,by rw[← hfo,e],rfl⟩⟩⟩
    | cons s up=>
      obtain⟨hb,hu⟩:=hrest;rw[zd9]at hfo;exact⟨_,hb,fun b e=>by rw[← hfo,e],fun e=>⟨up.length+1,by simp at hm;omega,.inl ⟨up,hu,by rw[← hfo,e],rfl⟩⟩⟩
   have hl:=hg.look2 hs;clear hch hrest;rcases hgn:g n with _|⟨qk,qi,qt⟩
   ·rw[hgn]at hl
    simp only[Option.getD_none,Option.isSome_none,zmq]at hl;obtain⟨m',hm',hnx⟩:=hn hgn
    have HN:=Hd (show zrA fs P n o (wr.alloc (.cells #[.int .i64 0,.int .i64 0,.string ⟨#[]⟩] 78)) m' p' from by
     rcases hnx with ⟨L2,h2,h3,h4⟩|h2
     ·exact .inl ⟨L2,h2.keep fun k hk=>⟨(ba1 wr _).block k (zv5 (HP.out k hk) HBw.out.size),hk⟩,h3,h4⟩
     ·exact .inr h2)
    clear hnx hn hy hg
    go_wp2_with fail
    go_roundg m'
    case measure=>exact hm'
    case rel=>exact⟨HN,Hd (HB.out.alloc HB.out.size _)⟩
   ·rw[hgn]at hl
    simp only[Option.getD_some,Option.isSome_some,bndV]at hl;have hoe:=hy _ hgn;subst hoe;clear hy hn hg;have hsz:w.heap.size<wr.heap.size:=zv5 HZ.out HB.out.size;have hd:=(HB.out.block _ HZ.out).trans HX.out;have h3:(((wr.setCell ⟨w.heap.size,0,none⟩ (.int .i64 qk)).setCell ⟨w.heap.size,1,none⟩ (.int .i64 qi)).setCell ⟨w.heap.size,2,none⟩ (.string qt)).heap[w.heap.size]?=some (.cells #[.int .i64 qk,.int .i64 qi,.string qt] 78 (0,0)):=by
     simp[World.setCell,Array.getElem?_modify,hd]
    obtain⟨⟨e0,e1,e2⟩,_⟩:=zac (((ba1 _ (.cells #[.int .i64 qk,.int .i64 qi,.string qt] 78)).block _ (zaa h3)).trans h3);clear h3 hd
    go_wp2_with fail
    refine bodyPost_ret (v:=.tuple #[bndV ⟨qk,qi,qt⟩,.bool true]) (by simp only[bndV];simp[results,Tryz.results64,go_sem,e0,e1,e2]) rfl ⟨rfl,?_⟩;have hb3:=((HBw.out.setCell (p:=⟨w.heap.size,0,none⟩) (zv0 _) (.int .i64 qk)).setCell (p:=⟨w.heap.size,1,none⟩) (zv0 _) (.int .i64 qi)).setCell (p:=⟨w.heap.size,2,none⟩) (zv0 _) (.string qt);exact hb3.alloc hb3.size _
  ·subst hoe
   go_wp2_with fail
   exact bodyPost_ret (v:=.tuple #[bndV bnd0,.bool false]) (by simp only[zmq];simp[results,Tryz.results64,go_sem,d0,d1,d2]) rfl ⟨rfl,Below.setCell (Below.setCell (Below.setCell HBw.out (zv0 _) _) (zv0 _) _) (zv0 _) _⟩
end Go.Proofs.YtbbaooeioogijaaGreatDoor
namespace Go.Proofs.YtbbaooeioogijaaGreatDoor
open Go.RowKit
set_option maxRecDepth 100000
set_option maxHeartbeats 8000000
theorem zhS (fr:List Nat):∀(n m e:Nat),zbx fr (n+m) e=zbx fr m (zbx fr n e)
 | 0,m,e=>by rw[Nat.zero_add];rfl
 | n+1,m,e=>by rw[Nat.add_right_comm,zbx,zbx,zhS fr n m]
theorem znw {fr:List Nat}:∀{n m e:Nat},Back fr n e→Back fr m (zbx fr n e)→Back fr (n+m) e
 | 0,m,e,_,h=>by rw[Nat.zero_add];exact h
 | n+1,m,e,⟨h1,h2,h3⟩,h=>by
   rw[Nat.add_right_comm];exact⟨h1,h2,znw h3 h⟩
structure BgInv (fr:List Nat)(k e l:Nat):Prop where
 start:zbx fr l e=fr.getD k 0
 back:Back fr l e
 le:e≤k
theorem BgInv.next {t:List Nd}{fr:List Nat}(hb:zah t=some fr){k e l:Nat}(h:BgInv fr k (e+1) (l+1))(hk:k<t.length):∃n:Nat,(t[e]'(by have:=h.le;omega)).n=(n:Int)∧BgInv fr k e (n+l)∧n≤e:=by
 have he:e<t.length:=by have:=h.le;omega
 obtain⟨h1,h2,_⟩:=(zar hb).node e _ (zv1 he);have h3:=zgp hb (zv1 he);have h4:=h.start;have h5:=h.back;rw[zbx,Nat.add_sub_cancel]at h4;obtain⟨_,_,h6⟩:=h5;rw[Nat.add_sub_cancel]at h6;refine⟨t[e].n.toNat,by omega,⟨by rw[zhS,h3,h4],znw h2 (by rw[h3];exact h6),by have:=h.le;omega⟩,h2.le⟩
theorem zoX {A rb:Nat}{ab:Option Addr}{cb:Nat}{t:List Nd}{fr:List Nat}(hb:zah t=some fr)(k:Nat)(hk:k<t.length)(hl:t.length≤4096)(w:World)(hc:w.cell? ⟨rb,4,none⟩=some (.slice ab t.length cb))(hI:zaV A w ab t) :
 Calls Tryz.prog 95 #[.pointer (some ⟨rb,0,none⟩),.int .i64 (k:Int)] w fun e w'=>e=.returned (.int .i64 (fr.getD k 0:Int))∧w'=w:=by
 have HI:=Hd hI;have HN:=Hd (fun e l (h:BgInv fr k (e+1) (l+1))=>h.next hb hk);obtain⟨hn0,hbk,_⟩:=(zar hb).node k _ (zv1 hk);have hst:=zgp hb (zv1 hk);obtain⟨ba,off,ha,hbl,x0,x1,x2,x3,x4,x5⟩:=zbg hI hk;subst ha;clear x0 x2 x3 x4 x5 hI;generalize t[k].n=xn at *;obtain⟨n,rfl⟩:∃n:Nat,xn=(n:Int):=⟨xn.toNat,by omega⟩
 rw[Int.toNat_natCast]at *;have H0:=Hd (show BgInv fr k k n from ⟨hst,hbk,zv0 _⟩);have hnk:=hbk.le;clear hbk hst hb
 go_enter Tryz.func95,Tryz.ntmps95
 go_wp2_with fail
 go_loopg [1,5] k (fun m v1 v5 wy=>∃e l:Nat,m=e∧v1=.int .i64 (e:Int)∧v5=.int .i64 (l:Int)∧Hid (BgInv fr k e l)∧wy=w)
 case atStart=>exact⟨k,n,rfl,rfl,rfl,H0,by trivial⟩
 case round=>
  obtain⟨e,l,hm,rfl,rfl,HB,rfl⟩:=hrel;have hle:=HB.out.back.le;have hek:=HB.out.le;cases l with
  | zero=>
    have hfin:(e:Int)=(fr.getD k 0:Int):=by have:=HB.out.start;rw[zbx]at this;omega
    clear x1
    go_wp2_with fail
    go_ret;exact⟨(show Ending.returned (.int .i64 (e:Int))=_ by rw[hfin]),by trivial⟩
  | succ l=>
    obtain⟨d,rfl⟩:∃d,e=d+1:=⟨e-1,by omega⟩
    obtain⟨q,hq,hqi,hqd⟩:=HN.out d l HB.out;obtain⟨ba',off',ha',hbl',c0,c1,c2,c3,c4,c5⟩:=zbg HI.out (show d<t.length by omega);obtain⟨rfl,rfl⟩:ba=ba'∧off=off':=by simpa using ha'
    rw[hq]at c1;have HQ:=Hd hqi;clear c0 c2 c3 c4 c5 hqi hq ha' x1
    go_wp2_with fail
    go_roundg d
    case measure=>omega
    case rel=>exact⟨d,q+l,rfl,rfl,by congr 1;omega,HQ,by trivial⟩
theorem zh9 {A rb:Nat}{ab:Option Addr}{cb:Nat}{t:List Nd}{fr:List Nat}(hb:zah t=some fr)(k:Nat)(hk:k<t.length)(hl:t.length≤4096)(w:World)(hrb:rb<w.heap.size)(hA:A≤w.heap.size)(hc:w.cell? ⟨rb,4,none⟩=some (.slice ab t.length cb))(hI:zaV A w ab t) :
 Calls Tryz.prog 65 #[.pointer (some ⟨rb,0,none⟩),.int .i64 (k:Int)] w (zjx (partsAt t fr k) w):=by
 have hf:=zar hb;obtain⟨hn0,hbk,_⟩:=hf.node k _ (zv1 hk);rw[zan (zv1 hk)];have HB:=Hd (fun (d:Nat) (hd:d<t.length) w1 (h:Below w.heap.size w w1)=>zoX hb d hd hl w1 ((h.cell hrb).trans hc) (hI.below h hA));obtain⟨ba,off,ha,hbl,x0,x1,x2,x3,x4,x5⟩:=zbg hI hk;subst ha;clear x0 x2 x3 x4 x5;clear hf hI;generalize t[k].n=xn at *;obtain⟨n,rfl⟩:∃n:Nat,xn=(n:Int):=⟨xn.toNat,by omega⟩
 rw[Int.toNat_natCast]at *;have hnk:=hbk.le;have HBk:=Hd hbk;obtain⟨i0,hi,hz0,hz1,hz2⟩:=info_parts zeR;have HI0:=Hd (And.intro hi (And.intro hz0 (And.intro hz1 hz2)));have HNum:=Hd (show i0.bytes*n≤281474976710656∧n≤maxLen from ⟨by rw[hz2];omega,by unfold maxLen;omega⟩);clear hi hz0 hz1 hz2 hbk hn0 hb
 go_enter Tryz.func65,Tryz.ntmps65
 go_wp2_with (at_make;go_loud (refine wpList_make_full _ rfl _ _ _ rfl w.heap.size 3 i0 (.int .i64 0) 1 Tryz.underlying124 HI0.out.1 HI0.out.2.1 HI0.out.2.2.1 .i64 .i64 (n:Int) (n:Int) n rfl rfl rfl rfl HNum.out.1 HNum.out.2 (zv0 _) ?_))
 intro w1 hown1 hgrow1;have hb1:Below w.heap.size w w1:=(zv3 _ _).grown hgrow1 (zv0 _) (fun k hk=>by simp at hk);have HP0:=Hd (show PartInv w fr n k w1 n k [] from ⟨by simp,by simp,HBk.out,zv0 _,⟨_,hown1,fun i x h=>by simp at h⟩,hb1⟩);clear hown1 hgrow1 hb1 x1 hc
 go_wp2_with fail
 go_loopg [6,7] n (fun m v6 v7 wy=>∃(r e:Nat) (x y:Int) (tail:List Nat),m=r∧r≤n∧v7=.int .i64 x∧v6=.int .i64 y∧x=(r:Int)-1∧y=(e:Int)-1∧Hid (PartInv w fr n k wy r e tail))
 case atStart=>exact⟨n,k,_,_,[],rfl,zv0 _,rfl,rfl,rfl,rfl,HP0⟩
 case round=>
  obtain⟨r,e,x,y,tail,hm,hrn,rfl,rfl,hx,hy,HP⟩:=hrel;have hek:=HP.out.le;cases r with
  | zero=>
    have t1:decide (0≤x)=false:=by simp;omega
    go_wp2_with fail
    go_ret;exact zlD HP.out.done (zv3 _ _) HP.out.below
  | succ r=>
    obtain⟨d,rfl⟩:∃d,e=d+1:=⟨e-1,by have:=HP.out.back.1;omega⟩
    obtain rfl:x=(r:Int):=by omega
    obtain rfl:y=(d:Int):=by omega
    clear hx hy;have t1:decide (0≤(r:Int))=true:=by simp
    obtain⟨⟨u,c1⟩,c2⟩:=HP.out.cell;have HN:=Hd HP.out.next;have HBd:=Hd (HB.out d (by omega) _ HN.out.below);have hfd:fr.getD d 0≤d:=by have:=HP.out.back.2.1;rw[Nat.add_sub_cancel]at this;omega
    generalize fr.getD d 0=q at *
    go_wp2_with (go_at_call 95;(with_reducible refine HBd.out.mono ?_);rintro e w6 ⟨rfl,rfl⟩)
    go_roundg r
    case measure=>omega
    case rel=>exact⟨r,q,_,_,d :: tail,rfl,by omega,rfl,rfl,by omega,by omega,HN⟩
end Go.Proofs.YtbbaooeioogijaaGreatDoor
namespace Go.Proofs.YtbbaooeioogijaaGreatDoor
open Go.RowKit Go.Maps
set_option maxRecDepth 100000
structure Stg (B:Nat)(fs:FileN)(f:FnU)(vp vb:Value)(w w1 wx:World)(rb c mb mt:Nat)(p ov sv sv':Value)(up:List ScN)(s:ScN)(r:ResN):Prop where
 vis:VisM B fs f vp vb wx rb c mb mt p ov sv' up s r
 below:Below B w wx
 keep:KeepU w1 wx (VisT rb mb mt sv ov)
 size:w1.heap.size≤wx.heap.size
 moved:∀k,sv'.ownBlock=some k→sv.ownBlock=some k∨w1.heap.size≤k
section
variable {B:Nat} {fs:FileN} {f:FnU} {vp vb:Value} {w w1 wx w':World} {rb c mb mt:Nat} {p ov sv sv':Value} {up:List ScN} {s:ScN} {r r':ResN}
theorem Stg.bLe (h:Stg B fs f vp vb w w1 wx rb c mb mt p ov sv sv' up s r):B≤wx.heap.size:=zv6 h.vis.res.base (zv7 h.vis.res.lt)
theorem Stg.next (h:Stg B fs f vp vb w w1 wx rb c mb mt p ov sv sv' up s r)(hb:Below wx.heap.size wx w'):Stg B fs f vp vb w w1 w' rb c mb mt p ov sv sv' up s r:=
 ⟨h.vis.below hb,h.below.trans (hb.mono h.bLe),h.keep.below h.size hb,zv6 h.size hb.size,h.moved⟩
theorem VisM.rest (h:VisM B fs f vp vb wx rb c mb mt p ov sv up s r)(hr:ResM B w' rb f vp vb sv ov r')(hk:KeepU wx w' (·=rb))(hs:wx.heap.size≤w'.heap.size):VisM B fs f vp vb w' rb c mb mt p ov sv up s r':=
 h.next (fun k hk1 hT=>hk k hk1 (fun e=>hT (.inl e))) hs (fun _ e=>.inl e) hr (h.sc.ents.move (hk _ h.sc.ents.lt (fun e=>h.apart.1.1 e.symm))) (h.sc.taken.move (hk _ h.sc.taken.lt (fun e=>h.apart.1.2 e.symm)))
theorem Stg.rest (h:Stg B fs f vp vb w w1 wx rb c mb mt p ov sv sv' up s r)(hr:ResM B w' rb f vp vb sv' ov r')(hb:Below B wx w')(hk:KeepU wx w' (·=rb))(hs:wx.heap.size≤w'.heap.size):Stg B fs f vp vb w w1 w' rb c mb mt p ov sv sv' up s r':=
 ⟨h.vis.rest hr hk hs,h.below.trans hb,fun k hk1 hT=>(hk k (zv5 hk1 h.size) (fun e=>hT (.inl e))).trans (h.keep k hk1 hT),zv6 h.size hs,h.moved⟩
theorem ResM.grown {row:Option Nat}(h:ResM B w rb f vp vb sv ov r)(hg:w.grownBy w' row)(h1:some rb≠row)(h2:∀k,sv.ownBlock=some k→some k≠row)(h3:∀k,ov.ownBlock=some k→some k≠row):ResM B w' rb f vp vb sv ov r:=by
 refine⟨(hg.block _ h.lt h1).trans h.blk,h.slots.kept hg ?_,h.out.kept hg ?_,h.base,h.apart⟩
 ·cases hv:sv.ownBlock with
  | none=>exact .inl rfl
  | some k=>exact .inr (h2 k hv)
 ·cases hv:ov.ownBlock with
  | none=>exact .inl rfl
  | some k=>exact .inr (h3 k hv)
theorem zfZ (hB:B≤wx.heap.size){b:Nat}(hb:B≤b)(ht:wx.mapTurned w' b):Below B wx w':=zdC (zv3 B wx) hB hb ht
theorem Stg.take (h:Stg B fs f vp vb w w1 wx rb c mb mt p ov sv sv' up s r){n:ByteArray}(ht:wx.mapTurned w' mt)(hn:MapN w' mt (s.taken.length+1) (cntB (n :: s.taken))):Stg B fs f vp vb w w1 w' rb c mb mt p ov sv sv' up (s.take n) r:=by
 have hg:=ht.grown;have hv:=h.vis;refine⟨hv.next (fun k hk hT=>hg.block k hk (fun e=>hT (.inr (.inr (.inl (zv4 e)))))) hg.size (fun _ e=>.inl e) (hv.res.grown hg (fun e=>hv.apart.1.2 (zv4 e)) (fun k e1 e2=>(hv.apart.2.1 k e1).2 (zv4 e2)) (fun k e1 e2=>(hv.apart.2.2 k e1).2 (zv4 e2))) (hv.sc.ents.kept hg (fun e=>hv.sc.ne.2.2 (zv4 e))) hn,h.below.trans (zfZ h.bLe hv.sc.base.2.2 ht),fun k hk hT=>(hg.block k (zv5 hk h.size) (fun e=>hT (.inr (.inr (.inl (zv4 e)))))).trans (h.keep k hk hT),zv6 h.size hg.size,h.moved⟩
theorem Stg.bind (h:Stg B fs f vp vb w w1 wx rb c mb mt p ov sv sv' up s r){n:ByteArray}{b:Bnd}(ht:wx.mapTurned w' mb)(hn:MapB w' mb (s.ents.length+1) (fun t=>if t=n then some b else entB s.ents t)):Stg B fs f vp vb w w1 w' rb c mb mt p ov sv sv' up (s.bind n b) r:=by
 have hg:=ht.grown;have hv:=h.vis;have hn':MapB w' mb (s.bind n b).ents.length (entB (s.bind n b).ents):=hn.same fun t=>by
  show _=entB ((n,b) :: s.ents) t;rw[zkP]
  by_cases e:t=n
  ·subst e;simp
  ·have e':¬n=t:=fun h=>e h.symm
   simp[e,e']
 refine⟨hv.next (fun k hk hT=>hg.block k hk (fun e=>hT (.inr (.inl (zv4 e))))) hg.size (fun _ e=>.inl e) (hv.res.grown hg (fun e=>hv.apart.1.1 (zv4 e)) (fun k e1 e2=>(hv.apart.2.1 k e1).1 (zv4 e2)) (fun k e1 e2=>(hv.apart.2.2 k e1).1 (zv4 e2))) hn' (hv.sc.taken.kept hg (fun e=>hv.sc.ne.2.2 (zv4 e.symm))),h.below.trans (zfZ h.bLe hv.sc.base.2.1 ht),fun k hk hT=>(hg.block k (zv5 hk h.size) (fun e=>hT (.inr (.inl (zv4 e))))).trans (h.keep k hk hT),zv6 h.size hg.size,h.moved⟩
theorem ResM.slot {v':Value}{x:SlU}(h:ResM B wx rb f vp vb sv ov r)(hg:wx.grownBy w' sv.ownBlock)(ho:w'.ownsRow B 91 4 v' (r.slots.length+1) (r.slots.flatMap zaL++zaL x))(hv:∀k,v'.ownBlock=some k→sv.ownBlock=some k∨k=wx.heap.size):ResM B (w'.setCell ⟨rb,5,none⟩ v') rb f vp vb v' ov ⟨r.slots++[x],r.out,r.fault⟩:=by
 have hrb:w'.heap[rb]?=_:=(hg.block _ h.lt (fun e=>(h.apart.1 rb e.symm).1 rfl)).trans h.blk
 have hov:w'.ownsRow B 78 3 ov r.out.length (r.out.flatMap bndCells):=h.out.kept hg (by
  cases hk:ov.ownBlock with
  | none=>exact .inl rfl
  | some k=>exact .inr (fun e=>(h.apart.1 k e.symm).2 hk))
 have hne:∀k,v'.ownBlock=some k→k≠rb∧ov.ownBlock≠some k:=fun k hk=>by
  rcases hv k hk with e|e
  ·exact h.apart.1 k e
  ·have h1:=h.lt
   exact⟨by omega,fun e2=>by have:=zbG h.out e2;omega⟩
 refine⟨?_,zai ?_ _ _ (fun e=>(hne rb e).1 rfl),zai hov _ _ (fun e=>h.apart.2 rb e rfl),h.base,hne,h.apart.2⟩
 ·simp[World.setCell,Array.getElem?_modify,hrb]
 ·simp only[List.length_append,List.flatMap_append,List.length_cons,List.length_nil,List.flatMap_cons,List.flatMap_nil,List.append_nil]
  exact ho
theorem Stg.slot {v':Value}{x:SlU}(h:Stg B fs f vp vb w w1 wx rb c mb mt p ov sv sv' up s r)(hg:wx.grownBy w' sv'.ownBlock)(ho:w'.ownsRow B 91 4 v' (r.slots.length+1) (r.slots.flatMap zaL++zaL x))(hv:∀k,v'.ownBlock=some k→sv'.ownBlock=some k∨k=wx.heap.size):Stg B fs f vp vb w w1 (w'.setCell ⟨rb,5,none⟩ v') rb c mb mt p ov sv v' up s ⟨r.slots++[x],r.out,r.fault⟩:=by
 have hvis:=h.vis;have hne:∀k,k<wx.heap.size→k≠rb→sv'.ownBlock≠some k→(w'.setCell ⟨rb,5,none⟩ v').heap[k]?=wx.heap[k]?:=fun k h1 h2 h3=>by
  rw[Below.heap_setCell _ _ _ _ h2];exact hg.block k h1 (fun e=>h3 e.symm)
 have hsz:wx.heap.size≤(w'.setCell ⟨rb,5,none⟩ v').heap.size:=by have:=hg.size;simpa using this
 refine⟨hvis.next (fun k hk hT=>hne k hk (fun e=>hT (.inl e)) (fun e=>hT (.inr (.inr (.inr (.inl e)))))) hsz (fun k e=>(hv k e).imp id (fun e=>by omega)) (hvis.res.slot hg ho hv) (hvis.sc.ents.move (hne _ hvis.sc.ents.lt (fun e=>hvis.apart.1.1 e.symm) (fun e=>(hvis.apart.2.1 _ e).1 rfl))) (hvis.sc.taken.move (hne _ hvis.sc.taken.lt (fun e=>hvis.apart.1.2 e.symm) (fun e=>(hvis.apart.2.1 _ e).2 rfl))),h.below.trans (((zv3 B wx).grown hg h.bLe (fun k hk=>(hvis.res.slots.lt k hk).1)).setCell (p:=⟨rb,5,none⟩) hvis.res.base v'),fun k hk hT=>(hne k (zv5 hk h.size) (fun e=>hT (.inl e)) (fun e=>?_)).trans (h.keep k hk hT),zv6 h.size hsz,fun k e=>?_⟩
 ·rcases h.moved k e with e|e
  ·exact hT (.inr (.inr (.inr (.inl e))))
  ·omega
 ·rcases hv k e with e|e
  ·exact h.moved k e
  ·exact .inr (by have:=h.size;omega)
end
set_option maxHeartbeats 8000000
theorem ztx (l:List ByteArray)(n:ByteArray):(l.any fun q=>decide (q=n))=decide (0<cntB l n):=by
 unfold cntB;rw[Bool.eq_iff_iff,decide_eq_true_eq,List.any_eq_true];constructor
 ·rintro⟨q,hq,h⟩
  have:=(List.countP_pos_iff (p:=fun q=>decide (q=n))).2 ⟨q,hq,h⟩;omega
 ·intro h
  have h:0<l.countP fun q=>decide (q=n):=by omega
  exact List.countP_pos_iff.1 h
theorem zvB {n:Int}(h0:0≤n)(h:n<1000):(Lit.int .i64 n).wf=true:=by
 have h1:IntKind.i64.min=-9223372036854775808:=by decide
 have h2:IntKind.i64.max=9223372036854775807:=by decide
 simp only[Lit.wf,Bool.and_eq_true,decide_eq_true_eq,h1,h2];omega
theorem MapN.same {w:World}{b n:Nat}{f g:ByteArray→Int}(h:MapN w b n f)(e:∀s,f s=g s):MapN w b n g:=by
 obtain⟨D,hD,hv⟩:=h;exact⟨D,hD,fun s=>by rw[← e s];exact hv s⟩
theorem zrc (l:List ByteArray)(n t:ByteArray):cntB (n :: l) t=if t=n then cntB l n+1 else cntB l t:=by
 unfold cntB;rw[List.countP_cons]
 by_cases e:t=n
 ·subst e;simp
 ·have:¬n=t:=fun h=>e h.symm
  simp[e,this]
theorem zuP (l:List ByteArray)(n:ByteArray):0≤cntB l n∧cntB l n≤l.length:=by
 unfold cntB;have:=List.countP_le_length (p:=fun q=>decide (q=n)) (l:=l);omega
theorem ztQ:(Tryz.prog.info? 91).map (fun i=>(i.zero,i.size,i.bytes))=some (some (.agg #[.string ⟨#[]⟩,.string ⟨#[]⟩,.bool false,.bool false]),4,40):=by kernel_rfl
def slUV (x:SlU):Value:=.agg #[.string x.name,.string x.type,.bool x.vol,.bool x.param]
theorem zeU {w:World}{b:Nat}{a0 a1 a2 a3:Value}{T:TypeId}(h:w.heap[b]?=some (.cells #[a0,a1,a2,a3] T (0,0))) :
 (w.cell? ⟨b,0,none⟩=some a0∧w.cell? ⟨b,1,none⟩=some a1∧w.cell? ⟨b,2,none⟩=some a2∧w.cell? ⟨b,3,none⟩=some a3)∧∀j,w.frozen? ⟨b,j,none⟩=false:=by
 refine⟨⟨?_,?_,?_,?_⟩,fun j=>?_⟩<;>simp[World.cell?,World.frozen?,h]
theorem Stg.old {B:Nat}{fs:FileN}{f:FnU}{vp vb:Value}{w w1 wx w':World}{rb c mb mt:Nat}{p ov sv sv':Value}{up:List ScN}{s:ScN}{r:ResN}(h:Stg B fs f vp vb w w1 wx rb c mb mt p ov sv sv' up s r)(hg:wx.grownBy w' sv'.ownBlock):w'.cell? ⟨rb,5,none⟩=some sv'∧w'.frozen? ⟨rb,5,none⟩=false:=by
 have hb:=(hg.block _ h.vis.res.lt (fun e=>(h.vis.res.apart.1 rb e.symm).1 rfl)).trans h.vis.res.blk;obtain⟨⟨_,_,_,_,_,k5,_⟩,kf⟩:=zao hb;exact⟨k5,kf 5⟩
theorem ResM.other {B:Nat}{w:World}{rb:Nat}{f:FnU}{vp vb sv ov:Value}{r:ResN}(h:ResM B w rb f vp vb sv ov r)(a:Addr)(h1:rb≠a.block)(h2:sv.ownBlock≠some a.block)(h3:ov.ownBlock≠some a.block)(u:Value):ResM B (w.setCell a u) rb f vp vb sv ov r:=
 ⟨by rw[Below.heap_setCell _ _ _ _ h1];exact h.blk,zai h.slots _ _ h2,zai h.out _ _ h3,h.base,h.apart⟩
theorem Stg.hand {B:Nat}{fs:FileN}{f:FnU}{vp vb:Value}{w w1 wx:World}{rb c mb mt q:Nat}{p ov sv sv' u0 u1 u2:Value}{up:List ScN}{s s':ScN}{r r':ResN}(h0:VisM B fs f vp vb w rb c mb mt p ov sv up s r)(hb:Below w.heap.size w w1)(h:Stg B fs f vp vb w w1 wx rb c mb mt p ov sv sv' up s' r')(hq:w.heap.size≤q)(hq2:q<w1.heap.size) :
 (∃sv',VisM B fs f vp vb ((((wx.setCell ⟨q,0,none⟩ u0).setCell ⟨q,1,none⟩ u1).setCell ⟨q,2,none⟩ u2).drew) rb c mb mt p ov sv' up s' r'∧∀k,sv'.ownBlock=some k→sv.ownBlock=some k∨w.heap.size≤k)∧Below B w ((((wx.setCell ⟨q,0,none⟩ u0).setCell ⟨q,1,none⟩ u1).setCell ⟨q,2,none⟩ u2).drew)∧KeepU w ((((wx.setCell ⟨q,0,none⟩ u0).setCell ⟨q,1,none⟩ u1).setCell ⟨q,2,none⟩ u2).drew) (VisT rb mb mt sv ov)∧w.heap.size≤((((wx.setCell ⟨q,0,none⟩ u0).setCell ⟨q,1,none⟩ u1).setCell ⟨q,2,none⟩ u2).drew).heap.size:=by
 have hB:=h0.res.base;have hrl:=h0.res.lt;have hml:=h0.sc.ents.lt;have htl:=h0.sc.taken.lt;have hsz:=h.size;have hbs:=hb.size;have hsl:∀k,sv.ownBlock=some k→k<w.heap.size:=fun k e=>zbG h0.res.slots e
 have hol:∀k,ov.ownBlock=some k→k<w.heap.size:=fun k e=>zbG h0.res.out e
 have hs':sv'.ownBlock≠some q:=fun e=>by
  rcases h.moved q e with e|e
  ·have:=hsl q e;omega
  ·omega
 have ho':ov.ownBlock≠some q:=fun e=>by have:=hol q e;omega
 have hk:KeepU w ((((wx.setCell ⟨q,0,none⟩ u0).setCell ⟨q,1,none⟩ u1).setCell ⟨q,2,none⟩ u2).drew) (VisT rb mb mt sv ov):=fun k h1 hT=>by
  have hne:k≠q:=by omega
  show (((wx.setCell ⟨q,0,none⟩ u0).setCell ⟨q,1,none⟩ u1).setCell ⟨q,2,none⟩ u2).heap[k]?=_;rw[Below.heap_setCell _ _ _ _ hne,Below.heap_setCell _ _ _ _ hne,Below.heap_setCell _ _ _ _ hne];exact(h.keep k (by omega) hT).trans (hb.block k h1)
 have hz:w.heap.size≤((((wx.setCell ⟨q,0,none⟩ u0).setCell ⟨q,1,none⟩ u1).setCell ⟨q,2,none⟩ u2).drew).heap.size:=by
  show _≤(((wx.setCell ⟨q,0,none⟩ u0).setCell ⟨q,1,none⟩ u1).setCell ⟨q,2,none⟩ u2).heap.size;simp;omega
 have hv:=h.vis;have hbl:=(((zv3 B wx).setCell (p:=⟨q,0,none⟩) (by show B≤q;omega) u0).setCell (p:=⟨q,1,none⟩) (by show B≤q;omega) u1).setCell (p:=⟨q,2,none⟩) (by show B≤q;omega) u2;refine⟨⟨sv',h0.next hk hz (fun k e=>(h.moved k e).imp id (fun h=>by omega)) ?_ ?_ ?_,fun k e=>(h.moved k e).imp id (fun h=>by omega)⟩,h.below.trans hbl.drew,hk,hz⟩
 ·exact((((hv.res.other ⟨q,0,none⟩ (by show rb≠q;omega) hs' ho' u0).other ⟨q,1,none⟩ (by show rb≠q;omega) hs' ho' u1).other ⟨q,2,none⟩ (by show rb≠q;omega) hs' ho' u2).below (zv3 _ _).drew)
 ·exact(((hv.sc.ents.other ⟨q,0,none⟩ (by show mb≠q;omega) u0).other ⟨q,1,none⟩ (by show mb≠q;omega) u1).other ⟨q,2,none⟩ (by show mb≠q;omega) u2).below (zv3 _ _).drew
 ·exact(((hv.sc.taken.other ⟨q,0,none⟩ (by show mt≠q;omega) u0).other ⟨q,1,none⟩ (by show mt≠q;omega) u1).other ⟨q,2,none⟩ (by show mt≠q;omega) u2).below (zv3 _ _).drew
theorem zjO {B:Nat}{fs:FileN}{f:FnU}{vp vb:Value}{rb c mb mt:Nat}{p ov sv:Value}{up:List ScN}{s:ScN}{r:ResN}(x:SlU)(at_:Int)(w:World)(h:VisM B fs f vp vb w rb c mb mt p ov sv up s r)(hB:B≤w.heap.size)(hsm:r.slots.length≤300)(htk:s.taken.length≤300)(hx:x.name.size≤maxLen) :
 Calls Tryz.prog 43 #[.pointer (some ⟨rb,0,none⟩),.pointer (some ⟨c,0,none⟩),slUV x,.int .i64 at_] w fun e w'=>e=.returned (bndV (zcs r x))∧(∃sv',VisM B fs f vp vb w' rb c mb mt p ov sv' up (s.take x.name) (zbt r s x at_)∧∀k,sv'.ownBlock=some k→sv.ownBlock=some k∨w.heap.size≤k)∧Below B w w'∧KeepU w w' (VisT rb mb mt sv ov)∧w.heap.size≤w'.heap.size:=by
 obtain⟨av,cs,rfl⟩:=zam h.res.slots;have HV:=Hd h;have hcn:=ztx s.taken x.name;have hcl:=zuP s.taken x.name;have hb0:=ba1 w (.cells #[.string x.name,.string x.type,.bool x.vol,.bool x.param] 91);have hb1:=hb0.alloc hb0.size (.cells #[.int .i64 0,.int .i64 0,.string ⟨#[]⟩] 78);have hxx:((w.alloc (.cells #[.string x.name,.string x.type,.bool x.vol,.bool x.param] 91)).alloc (.cells #[.int .i64 0,.int .i64 0,.string ⟨#[]⟩] 78)).heap[w.heap.size]?=some (.cells #[.string x.name,.string x.type,.bool x.vol,.bool x.param] 91 (0,0)):=((ba1 _ _).block _ (zaa (zv8 w _))).trans (zv8 w _);have hxr:((w.alloc (.cells #[.string x.name,.string x.type,.bool x.vol,.bool x.param] 91)).alloc (.cells #[.int .i64 0,.int .i64 0,.string ⟨#[]⟩] 78)).heap[w.heap.size+1]?=some (.cells #[.int .i64 0,.int .i64 0,.string ⟨#[]⟩] 78 (0,0)):=by
  have:=zv8 (w.alloc (.cells #[.string x.name,.string x.type,.bool x.vol,.bool x.param] 91)) (.cells #[.int .i64 0,.int .i64 0,.string ⟨#[]⟩] 78);simpa using this
 have hs1:((w.alloc (.cells #[.string x.name,.string x.type,.bool x.vol,.bool x.param] 91)).alloc (.cells #[.int .i64 0,.int .i64 0,.string ⟨#[]⟩] 78)).heap.size=w.heap.size+2:=by simp
 simp only[slUV]
 go_enter Tryz.func43,Tryz.ntmps43
 go_upto_region 1 with fail
 generalize (w.alloc (.cells #[.string x.name,.string x.type,.bool x.vol,.bool x.param] 91)).alloc (.cells #[.int .i64 0,.int .i64 0,.string ⟨#[]⟩] 78)=w1 at *;have hV1:=h.below hb1;have HV1:=Hd hV1;obtain⟨⟨x0,x1,x2,x3⟩,_⟩:=zeU hxx;obtain⟨⟨k0,k1,k2⟩,_⟩:=zac hV1.sc.blk;have hl1:=fun m=>(hV1.sc.taken.below (zaf (zv3 _ w1) m)).look hx
 have HX:=Hd hxx;have HXr:=Hd hxr;have HB1:=Hd hb1;clear h hb0 hb1 hxx hxr hV1
 go_quiet (fail)
 have HS2:=Hd (show Stg B fs f vp vb w w1 (w1.drewN nq) rb c mb mt p ov (.slice av r.slots.length cs) (.slice av r.slots.length cs) up s r from ⟨HV1.out.below (zaf (zv3 _ _) _),(HB1.out.mono hB).trans ((zaf (zv3 _ w1) nq).mono (by have:=HB1.out.size;omega)),(KeepU.refl w1 _).below (zv0 _) (zaf (zv3 _ _) _),(zaf (zv3 w1.heap.size w1) nq).size,fun k e=>.inl e⟩)
 have HNt:=Hd (show ∀k,w.heap.size≤k→¬VisT rb mb mt (.slice av r.slots.length cs) ov k from fun k hk hT=>by
  have h1:=HV.out;rcases hT with e|e|e|e|e
  ·have:=h1.res.lt;omega
  ·have:=h1.sc.ents.lt;omega
  ·have:=h1.sc.taken.lt;omega
  ·have:=zbG h1.res.slots e;omega
  ·have:=zbG h1.res.out e;omega)
 have HXk:=Hd (fun wx (h:KeepU w1 wx (VisT rb mb mt (.slice av r.slots.length cs) ov))=>zeU ((h _ (by omega) (HNt.out _ (zv0 _))).trans HX.out));have HRk:=Hd (fun wx (h:KeepU w1 wx (VisT rb mb mt (.slice av r.slots.length cs) ov))=>zac ((h _ (by omega) (HNt.out (w.heap.size+1) (Nat.le_succ _))).trans HXr.out));clear k0 k1 k2 x0 x1 x2 x3 hl1;generalize w1.drewN nq=w2 at *
 go_upto_if 16 with fail
 go_cut [] (fun wx=>Hid (Stg B fs f vp vb w w1 wx rb c mb mt p ov (.slice av r.slots.length cs) (.slice av r.slots.length cs) up s (if (s.taken.any fun q=>decide (q=x.name))=true then r.wrong at_ 6 else r)))
 case first=>
  by_cases hc:0<cntB s.taken x.name
  ·have HW:=Hd (zfq at_ 6 w2 HS2.out.vis.res)
   have HC:=Hd (show (s.taken.any fun q=>decide (q=x.name))=true from hcn.trans (decide_eq_true hc))
   go_wp2_with (go_at_call 63;(with_reducible refine HW.out.mono ?_);rintro e w6 ⟨rfl,hr6,hb6,hk6,hz6⟩;have HS6:=Hd (HS2.out.rest hr6 hb6 hk6 (Nat.le_of_eq hz6.symm));clear hr6 hb6 hk6 hz6)
   go_meet
   exact Hd (by rw[if_pos HC.out];exact HS6.out)
  ·have HC:=Hd (show ¬(s.taken.any fun q=>decide (q=x.name))=true by rw[hcn];simpa using hc)
   go_wp2_with fail
   go_meet
   exact Hd (by rw[if_neg HC.out];exact HS2.out)
 case rest=>
  have HS3:=hcut;clear hcut;obtain⟨r1,hr1⟩:∃r1,r1=(if (s.taken.any fun q=>decide (q=x.name))=true then r.wrong at_ 6 else r):=⟨_,rfl⟩
  rw[← hr1]at HS3;have hr1s:r1.slots.length=r.slots.length:=by rw[hr1];split<;>simp[(zbC r at_ 6).1]
  have HR1:=Hd hr1;clear hr1
  go_upto_region 3 with fail
  obtain⟨⟨k0,k1,k2⟩,_⟩:=zac HS3.out.vis.sc.blk;obtain⟨⟨x0,x1,x2,x3⟩,_⟩:=HXk.out wc HS3.out.keep;have htk3:=HS3.out.vis.sc.taken.below ((zv3 _ wc).drew);have hl3:=htk3.look hx;obtain⟨wz,hup,hmz,htz⟩:=htk3.store (by unfold maxLen;omega) hx (v:=cntB s.taken x.name+1) (zvB (by have:=hcl.1;omega) (by have:=hcl.2;omega));have HSd:=Hd (HS3.out.next ((zv3 _ wc).drew));have HMz:=Hd (hmz.same fun t=>(zrc s.taken x.name t).symm);have HTz:=Hd htz;clear hmz htz htk3;have hc0:=hcl.1;have hc1:cntB s.taken x.name≤300:=by have:=hcl.2;omega
  have hcw:IntKind.i64.wrap (cntB s.taken x.name+1)=cntB s.taken x.name+1:=by rw[IntKind.wrap_i64];omega
  go_still_tail 8,(by kernel_rfl)
  change wpList _ _ _ _ _ wc.drew;clear k0 k1 k2 x0 x1 x2 x3 hl3;have HS4:=Hd (HSd.out.take HTz.out HMz.out)
  go_upto_region 4 with fail
  clear hup hc0 hc1 hcw;clear HS3 HSd HMz HTz HS2 HV1;obtain⟨⟨k0,k1,k2,k3,k4,k5,k6,k7,k8⟩,_⟩:=zao HS4.out.vis.res.blk;have hrs:slotW r s x.name at_=if 256≤r1.slots.length then r1.wrong at_ 3 else r1:=by rw[HR1.out];rfl
  have HRs:=Hd hrs;clear hrs k0 k1 k2 k3 k4 k6 k7 k8
  go_upto_if 33 with fail
  go_cut [] (fun wx=>Hid (Stg B fs f vp vb w w1 wx rb c mb mt p ov (.slice av r.slots.length cs) (.slice av r.slots.length cs) up (s.take x.name) (slotW r s x.name at_)))
  case first=>
   by_cases hc:256≤r.slots.length
   ·have HW:=Hd (zfq at_ 3 wz HS4.out.vis.res)
    have HC:=Hd (show 256≤r1.slots.length by omega);have t1:(256:Int)≤(r.slots.length:Int):=by omega
    go_wp2_with (go_at_call 63;(with_reducible refine HW.out.mono ?_);rintro e w6 ⟨rfl,hr6,hb6,hk6,hz6⟩;have HS6:=Hd (HS4.out.rest hr6 hb6 hk6 (Nat.le_of_eq hz6.symm));clear hr6 hb6 hk6 hz6)
    go_meet
    exact Hd (by rw[HRs.out,if_pos HC.out];exact HS6.out)
   ·have HC:=Hd (show ¬256≤r1.slots.length by omega)
    have t1:(r.slots.length:Int)<(256:Int):=by omega
    go_wp2_with fail
    go_meet
    exact Hd (by rw[HRs.out,if_neg HC.out];exact HS4.out)
  case rest=>
   have HS5:=hcut;have hr2:=(zeF r s x.name at_).1;have HRR:=Hd (show zbt r s x at_=⟨(slotW r s x.name at_).slots++[x],(slotW r s x.name at_).out,(slotW r s x.name at_).fault⟩ from rfl);generalize slotW r s x.name at_=r2 at *;have hl2:r2.slots.length=r.slots.length:=by rw[hr2]
   clear hcut k5 HS4 HRs hr2;obtain⟨⟨k0,k1,k2,k3,k4,k5,k6,k7,k8⟩,_⟩:=zao HS5.out.vis.res.blk;obtain⟨⟨x0,x1,x2,x3⟩,_⟩:=HXk.out wc HS5.out.keep;have hrz:=HS5.out.vis.res.lt;have hxz:w.heap.size<wc.heap.size:=by have:=HS5.out.size;omega
   have hBz:=HS5.out.bLe;have hss:=HS5.out.vis.res.slots;rw[hl2]at hss;have HSs:=Hd hss;obtain⟨i0,hi,hz0,hz1',hz2'⟩:=info_parts ztQ;have HIn:=Hd (And.intro hi (And.intro hz0 (And.intro hz1' hz2')));have HBig:=Hd (show Below wc.heap.size wc (wc.alloc (.cells #[.string x.name,.string x.type,.bool x.vol,.bool x.param] 91)).drew from ((zv3 _ _).alloc (zv0 _) _).drew);have HS6:=Hd (HS5.out.next HBig.out);clear hi hz0 hz1' hz2' hss k0 k1 k2 k3 k4 k6 k7 k8
   go_upto_region 6 with fail
   go_cut [] (fun wx=>∃sv',Hid (Stg B fs f vp vb w w1 wx rb c mb mt p ov (.slice av r.slots.length cs) sv' up (s.take x.name) (zbt r s x at_)))
   case first=>
    go_region_law ((refine step_append_lies _ (by rfl) _ _ _ (by rfl) B 91 i0 _ 4 40 Tryz.underlying52 HIn.out.1 HIn.out.2.1 HIn.out.2.2.1 HIn.out.2.2.2 rfl (by omega) (.slice av r.slots.length cs) r.slots.length (r2.slots.flatMap zaL) (by rfl) (HSs.out.belowed HBig.out) ⟨wc.heap.size,0,none⟩ 1 1 (zaL x) (by rfl) (by rfl) (World.news_of_block (cs:=#[.string x.name,.string x.type,.bool x.vol,.bool x.param]) (t:=91) (fr:=(0,0)) (zv8 wc _)) (by simp[zaL,Value.oneCell']) (by omega) (by unfold maxLen;omega) (by omega) (by simp;omega) (wc.heap.size+1) (by simp) ?_;intro gg cpp w9 hown hgrow hat hlt9;have j0:=(HS6.out.old hgrow).1;have jf:=(HS6.out.old hgrow).2))
    all_goals
     have HS9:=Hd (HS6.out.slot (x:=x) hgrow (by rw[hl2];exact hown) (fun k hk=>(zca hat hk).imp id (fun e=>e.trans (by simp))));clear hown hgrow hat hlt9 j0 jf
     go_wp2_with fail
     go_meet
     exact⟨_,Hd (by rw[HRR.out];exact HS9.out)⟩
   case rest=>
    obtain⟨sv',HS7⟩:=hcut;have hl7:(zbt r s x at_).slots.length=r.slots.length+1:=by
     have:=(zeF r s x.name at_).1;unfold zbt;simp[this]
    have hs7:=HS7.out.vis.res.slots;rw[hl7]at hs7;obtain⟨av7,cs7,rfl⟩:=zam hs7;clear hs7 k5 x0 x1 x2 x3 HS5 HS6 HSs HIn HBig HRR hl2 hl7;obtain⟨⟨k0,k1,k2,k3,k4,k5,k6,k7,k8⟩,_⟩:=zao HS7.out.vis.res.blk;obtain⟨⟨x0,x1,x2,x3⟩,_⟩:=HXk.out wc HS7.out.keep;obtain⟨⟨d0,d1,d2⟩,fd⟩:=HRk.out wc HS7.out.keep;have fd0:=fd 0;have fd1:=fd 1;have fd2:=fd 2;have hw7:IntKind.i64.wrap ((r.slots.length:Int)+1-1)=(r.slots.length:Int):=by rw[IntKind.wrap_i64];omega
    have hw8:IntKind.i64.wrap (r.slots.length:Int)=(r.slots.length:Int):=by rw[IntKind.wrap_i64];omega
    have hww:w.heap.size+1<wc.heap.size:=by have:=HS7.out.size;omega
    have HKn:=Hd (show ∀u0 u1 u2,KeepU wc (((wc.setCell ⟨w.heap.size+1,0,none⟩ u0).setCell ⟨w.heap.size+1,1,none⟩ u1).setCell ⟨w.heap.size+1,2,none⟩ u2) (·=w.heap.size+1) from fun u0 u1 u2=>(((KeepU.refl wc (fun k=>k=w.heap.size+1)).set ⟨w.heap.size+1,0,none⟩ u0 rfl).set ⟨w.heap.size+1,1,none⟩ u1 rfl).set ⟨w.heap.size+1,2,none⟩ u2 rfl);clear k0 k1 k2 k3 k4 k6 k7 k8 x0 x2 x3 fd
    go_upto_region 7 with fail
    go_region_law (fail)
    all_goals
     go_wp2_with fail
     exact bodyPost_ret (v:=bndV (zcs r x)) (by simp[results,Tryz.results43,go_sem,d0,d1,d2,bndV,zcs]) rfl ⟨rfl,Stg.hand HV.out HB1.out HS7.out (Nat.le_succ _) (by omega)⟩
end Go.Proofs.YtbbaooeioogijaaGreatDoor
namespace Go.Proofs.YtbbaooeioogijaaGreatDoor
open Go.RowKit
set_option maxRecDepth 100000
set_option maxHeartbeats 4000000
theorem zmi {B:Nat}{w:World}{a:Option Addr}{t:List Bnd}(h:IsSl 3 bndCells B w a t){i:Nat}(hi:i<t.length):∃b off,a=some ⟨b,off,none⟩∧b<B ∧
 w.cell? ⟨b,off+i*3,none⟩=some (.int .i64 t[i].kind)∧w.cell? ⟨b,off+i*3+1,none⟩=some (.int .i64 t[i].idx)∧w.cell? ⟨b,off+i*3+2,none⟩=some (.string t[i].type):=by
 obtain⟨b,off,e,hlt,hc⟩:=h (fun e=>by rw[e]at hi;simp at hi);have h1:=hc i _ (zv1 hi);exact⟨b,off,e,hlt,by simpa using h1 0 _ rfl,h1 1 _ rfl,h1 2 _ rfl⟩
theorem zpk {B:Nat}{w:World}{a:Option Addr}{t:List SlU}(h:IsSl 4 zaL B w a t){i:Nat}(hi:i<t.length):∃b off,a=some ⟨b,off,none⟩∧b<B ∧
 w.cell? ⟨b,off+i*4,none⟩=some (.string t[i].name)∧w.cell? ⟨b,off+i*4+1,none⟩=some (.string t[i].type)∧w.cell? ⟨b,off+i*4+2,none⟩=some (.bool t[i].vol)∧w.cell? ⟨b,off+i*4+3,none⟩=some (.bool t[i].param):=by
 obtain⟨b,off,e,hlt,hc⟩:=h (fun e=>by rw[e]at hi;simp at hi);have h1:=hc i _ (zv1 hi);exact⟨b,off,e,hlt,by simpa using h1 0 _ rfl,h1 1 _ rfl,h1 2 _ rfl,h1 3 _ rfl⟩
theorem zjq (a b:Option Addr)(ca cb:Nat)(L:List Bnd)(w:World)(hA:IsSl 3 bndCells w.heap.size w a L)(hB:IsSl 3 bndCells w.heap.size w b L)(hl:L.length≤4096) :
 Calls Tryz.prog 8 #[.slice a L.length ca,.slice b L.length cb] w fun e w'=>e=.returned (.bool true)∧Below w.heap.size w w':=by
 have HA:=Hd hA;have HB:=Hd hB;have hli:(L.length:Int)≤4096:=by omega
 have hne:((L.length:Int) != (L.length:Int))=false:=by simp
 clear hA hB
 go_enter Tryz.func8,Tryz.ntmps8
 go_wp2_with fail
 go_loopg [5] L.length (fun m v5 wy=>∃(i:Nat),i≤L.length∧i+m=L.length∧v5=.int .i64 (i:Int)∧Hid (Below w.heap.size w wy))
 case atStart=>exact⟨0,by omega,by omega,rfl,Hd (zv3 _ _)⟩
 case round=>
  obtain⟨i,hi,him,rfl,HW⟩:=hrel
  by_cases hlt:i<L.length
  ·obtain⟨b1,o1,ha,hb1,c0,c1,c2⟩:=zmi HA.out hlt
   obtain⟨b2,o2,hb,hb2,e0,e1,e2⟩:=zmi HB.out hlt;subst ha hb;rw[← HW.out.cell hb1]at c0 c1 c2;rw[← HW.out.cell hb2]at e0 e1 e2;generalize L[i]=x at *;obtain⟨kk,n,ty⟩:=x;simp only at c0 c1 c2 e0 e1 e2;have t1:∀z:Int,(z != z)=false:=by simp
   have t2:∀z:List UInt8,(z != z)=false:=by simp
   have t3:∀z:Int,(z == z)=true:=by simp
   have t4:∀z:List UInt8,(z == z)=true:=by simp
   have hi0:(0:Int)≤(i:Int):=by omega
   have hi1:(i:Int)<(L.length:Int):=by omega
   go_wp2_with fail
   go_quiet (fail)
   go_wp2_with fail
   go_roundg (L.length-(i+1))
   case measure=>omega
   case rel=>exact⟨i+1,by omega,by omega,by rw[zv9];rfl,Hd (zaf HW.out _)⟩
  ·obtain rfl:i=L.length:=by omega
   go_wp2_with fail
   go_ret;exact⟨rfl,HW.out⟩
set_option maxHeartbeats 4000000
def zdo (s:ByteArray):List Value:=[.string s]
theorem zlh {B:Nat}{w:World}{a:Option Addr}{t:List ByteArray}(h:IsSl 1 zdo B w a t){i:Nat}(hi:i<t.length):∃b off,a=some ⟨b,off,none⟩∧b<B∧w.cell? ⟨b,off+i,none⟩=some (.string t[i]):=by
 obtain⟨b,off,e,hlt,hc⟩:=h (fun e=>by rw[e]at hi;simp at hi);have h1:=hc i _ (zv1 hi);exact⟨b,off,e,hlt,by simpa using h1 0 _ rfl⟩
theorem zmB {α:Type}{k:Nat}{cells:α→List Value}(hk:∀a,(cells a).length=k){w:World}{base n c:Nat}{a:Option Addr}{T:TypeId}{L:List α}(h:w.ownsRow base T k (.slice a n c) n (L.flatMap cells))(hn:n=L.length):IsSl k cells w.heap.size w a L:=by
 intro hne;have h0:0<L.length:=zwc hne;obtain⟨g,cap,e,_,hlt,_,_,_,_⟩:=zax hk h hn h0;obtain⟨rfl,rfl⟩:a=some ⟨g,0,none⟩∧c=cap:=by simpa using e
 exact⟨g,0,rfl,hlt,fun i x hx j u hu=>by
  rw[Nat.zero_add]
  exact zfb hk h hx hu⟩
theorem ziP {w:World}{base n c:Nat}{a:Option Addr}{L:List ByteArray}(h:w.ownsRow base 9 1 (.slice a n c) n (L.map .string))(hn:n=L.length):IsSl 1 zdo w.heap.size w a L:=
 zmB (cells:=zdo) (fun _=>rfl) (by rw[show L.flatMap zdo=L.map .string from List.map_eq_flatMap.symm];exact h) hn
theorem znQ (a b:Option Addr)(ca cb:Nat)(L:List SlU)(w:World)(hA:IsSl 4 zaL w.heap.size w a L)(hB:IsSl 4 zaL w.heap.size w b L)(hl:L.length≤4096) :
 Calls Tryz.prog 17 #[.slice a L.length ca,.slice b L.length cb] w fun e w'=>e=.returned (.bool true)∧Below w.heap.size w w':=by
 have HA:=Hd hA;have HB:=Hd hB;have hli:(L.length:Int)≤4096:=by omega
 have hne:((L.length:Int) != (L.length:Int))=false:=by simp
 clear hA hB
 go_enter Tryz.func17,Tryz.ntmps17
 go_wp2_with fail
 go_loopg [5] L.length (fun m v5 wy=>∃(i:Nat),i≤L.length∧i+m=L.length∧v5=.int .i64 (i:Int)∧Hid (Below w.heap.size w wy))
 case atStart=>exact⟨0,by omega,by omega,rfl,Hd (zv3 _ _)⟩
 case round=>
  obtain⟨i,hi,him,rfl,HW⟩:=hrel
  by_cases hlt:i<L.length
  ·obtain⟨b1,o1,ha,hb1,c0,c1,c2,c3⟩:=zpk HA.out hlt
   obtain⟨b2,o2,hb,hb2,e0,e1,e2,e3⟩:=zpk HB.out hlt;subst ha hb;rw[← HW.out.cell hb1]at c0 c1 c2 c3;rw[← HW.out.cell hb2]at e0 e1 e2 e3;generalize L[i]=x at *;obtain⟨n,ty,vo,pa⟩:=x;simp only at c0 c1 c2 c3 e0 e1 e2 e3;have t1:∀z:Bool,(z != z)=false:=by simp
   have t2:∀z:List UInt8,(z != z)=false:=by simp
   have t3:∀z:Bool,(z == z)=true:=by simp
   have t4:∀z:List UInt8,(z == z)=true:=by simp
   have hi0:(0:Int)≤(i:Int):=by omega
   have hi1:(i:Int)<(L.length:Int):=by omega
   go_wp2_with fail
   go_quiet (fail)
   go_wp2_with fail
   go_roundg (L.length-(i+1))
   case measure=>omega
   case rel=>exact⟨i+1,by omega,by omega,by rw[zv9];rfl,Hd (zaf HW.out _)⟩
  ·obtain rfl:i=L.length:=by omega
   go_wp2_with fail
   go_ret;exact⟨rfl,HW.out⟩
theorem zjS (a b:Option Addr)(ca cb:Nat)(L:List ByteArray)(w:World)(hA:IsSl 1 zdo w.heap.size w a L)(hB:IsSl 1 zdo w.heap.size w b L)(hl:L.length≤1048576) :
 Calls Tryz.prog 9 #[.slice a L.length ca,.slice b L.length cb] w fun e w'=>e=.returned (.bool true)∧Below w.heap.size w w':=by
 have HA:=Hd hA;have HB:=Hd hB;have hli:(L.length:Int)≤1048576:=by omega
 have hne:((L.length:Int) != (L.length:Int))=false:=by simp
 clear hA hB
 go_enter Tryz.func9,Tryz.ntmps9
 go_wp2_with fail
 go_loopg [5] L.length (fun m v5 wy=>∃(i:Nat),i≤L.length∧i+m=L.length∧v5=.int .i64 (i:Int)∧Hid (Below w.heap.size w wy))
 case atStart=>exact⟨0,by omega,by omega,rfl,Hd (zv3 _ _)⟩
 case round=>
  obtain⟨i,hi,him,rfl,HW⟩:=hrel
  by_cases hlt:i<L.length
  ·obtain⟨b1,o1,ha,hb1,c0⟩:=zlh HA.out hlt
   obtain⟨b2,o2,hb,hb2,e0⟩:=zlh HB.out hlt;subst ha hb;rw[← HW.out.cell hb1]at c0;rw[← HW.out.cell hb2]at e0;generalize L[i]=x at *;have t2:∀z:List UInt8,(z != z)=false:=by simp
   have t4:∀z:List UInt8,(z == z)=true:=by simp
   have hi0:(0:Int)≤(i:Int):=by omega
   have hi1:(i:Int)<(L.length:Int):=by omega
   go_wp2_with fail
   go_quiet (fail)
   go_wp2_with fail
   go_roundg (L.length-(i+1))
   case measure=>omega
   case rel=>exact⟨i+1,by omega,by omega,by rw[zv9];rfl,Hd (zaf HW.out _)⟩
  ·obtain rfl:i=L.length:=by omega
   go_wp2_with fail
   go_ret;exact⟨rfl,HW.out⟩
end Go.Proofs.YtbbaooeioogijaaGreatDoor
namespace Go.Proofs.YtbbaooeioogijaaGreatDoor
open Go.RowKit Go.Maps
def zb5 (l:LocN):List Value:=[.string l.1,.int .i64 (l.2.1:Int),.int .i64 (l.2.2:Int)]
theorem zlV (l:LocN):(zb5 l).length=3:=rfl
structure WayM (B:Nat)(w:World)(b:Nat)(vt vf vn sv bv iv:Value)(s:WayN)(f:Int × Int):Prop where
 blk:w.heap[b]?=some (.cells #[vt,vf,vn,sv,bv,iv,.int .i64 f.1,.int .i64 f.2] 119 (0,0))
 slots:w.ownsRow B 91 4 sv s.slots.length (s.slots.flatMap zaL)
 out:w.ownsRow B 78 3 bv s.out.length (s.out.flatMap bndCells)
 ins:w.ownsRow B 122 3 iv s.ins.length (s.ins.flatMap zb5)
 base:B≤b
 a1:sv.ownBlock≠some b∧bv.ownBlock≠some b∧iv.ownBlock≠some b
 a2:∀k,sv.ownBlock=some k→bv.ownBlock≠some k∧iv.ownBlock≠some k
 a3:∀k,bv.ownBlock=some k→iv.ownBlock≠some k
 ok:∀l ∈ s.ins,l.2.1<s.slots.length
def TouW (b:Nat)(sv bv iv:Value)(k:Nat):Prop:=k=b∨sv.ownBlock=some k∨bv.ownBlock=some k∨iv.ownBlock=some k
structure WStep (B:Nat)(w w':World)(b:Nat)(vt vf vn sv bv iv sv' iv':Value)(s':WayN)(f':Int × Int):Prop where
 m:WayM B w' b vt vf vn sv' bv iv' s' f'
 below:Below B w w'
 keep:KeepU w w' (TouW b sv bv iv)
 size:w.heap.size≤w'.heap.size
 movS:∀k,sv'.ownBlock=some k→sv.ownBlock=some k∨w.heap.size≤k
 movI:∀k,iv'.ownBlock=some k→iv.ownBlock=some k∨w.heap.size≤k
section
variable {B b:Nat} {w w' w'':World} {vt vf vn sv bv iv sv' iv' sv'' iv'':Value} {s s' s'':WayN} {f f' f'':Int × Int}
theorem WayM.lt (h:WayM B w b vt vf vn sv bv iv s f):b<w.heap.size:=zaa h.blk
theorem WayM.bLe (h:WayM B w b vt vf vn sv bv iv s f):B≤w.heap.size:=zv7 (Nat.lt_of_le_of_lt h.base h.lt)
theorem WayM.below (h:WayM B w b vt vf vn sv bv iv s f)(hb:Below w.heap.size w w'):WayM B w' b vt vf vn sv bv iv s f:=
 ⟨(hb.block _ h.lt).trans h.blk,h.slots.belowed hb,h.out.belowed hb,h.ins.belowed hb,h.base,h.a1,h.a2,h.a3,h.ok⟩
theorem WStep.refl (h:WayM B w b vt vf vn sv bv iv s f):WStep B w w b vt vf vn sv bv iv sv iv s f:=⟨h,zv3 _ _,KeepU.refl _ _,zv0 _,fun _ h=>.inl h,fun _ h=>.inl h⟩
theorem WStep.of_below (h:WayM B w b vt vf vn sv bv iv s f)(hb:Below w.heap.size w w'):WStep B w w' b vt vf vn sv bv iv sv iv s f:=⟨h.below hb,hb.mono h.bLe,(KeepU.refl _ _).below (zv0 _) hb,hb.size,fun _ h=>.inl h,fun _ h=>.inl h⟩
theorem WStep.trans (h:WStep B w w' b vt vf vn sv bv iv sv' iv' s' f')(g:WStep B w' w'' b vt vf vn sv' bv iv' sv'' iv'' s'' f''):WStep B w w'' b vt vf vn sv bv iv sv'' iv'' s'' f'':=by
 have hs:=h.size;refine⟨g.m,h.below.trans (g.below.mono (zv0 _)),fun k hk hT=>?_,zv6 h.size g.size,fun k e=>?_,fun k e=>?_⟩
 ·rw[g.keep k (by omega) ?_,h.keep k hk hT]
  rintro(e|e|e|e)
  ·exact hT (.inl e)
  ·rcases h.movS k e with e|e
   ·exact hT (.inr (.inl e))
   ·omega
  ·exact hT (.inr (.inr (.inl e)))
  ·rcases h.movI k e with e|e
   ·exact hT (.inr (.inr (.inr e)))
   ·omega
 ·rcases g.movS k e with e|e
  ·exact h.movS k e
  ·exact .inr (by omega)
 ·rcases g.movI k e with e|e
  ·exact h.movI k e
  ·exact .inr (by omega)
theorem WStep.more (h:WStep B w w' b vt vf vn sv bv iv sv' iv' s' f')(hb:Below w'.heap.size w' w''):WStep B w w'' b vt vf vn sv bv iv sv' iv' s' f':=h.trans (WStep.of_below h.m hb)
theorem zaC {w:World}{b:Nat}{a0 a1 a2 a3 a4 a5 a6 a7:Value}{T:TypeId}(h:w.heap[b]?=some (.cells #[a0,a1,a2,a3,a4,a5,a6,a7] T (0,0))) :
 (w.cell? ⟨b,0,none⟩=some a0∧w.cell? ⟨b,1,none⟩=some a1∧w.cell? ⟨b,2,none⟩=some a2∧w.cell? ⟨b,3,none⟩=some a3∧w.cell? ⟨b,4,none⟩=some a4∧w.cell? ⟨b,5,none⟩=some a5∧w.cell? ⟨b,6,none⟩=some a6∧w.cell? ⟨b,7,none⟩=some a7)∧∀j,w.frozen? ⟨b,j,none⟩=false:=by
 refine⟨⟨?_,?_,?_,?_,?_,?_,?_,?_⟩,fun j=>?_⟩<;>simp[World.cell?,World.frozen?,h]
theorem WayM.fault (h:WayM B w b vt vf vn sv bv iv s f)(x c:Int):WStep B w ((w.setCell ⟨b,6,none⟩ (.int .i64 x)).setCell ⟨b,7,none⟩ (.int .i64 c)) b vt vf vn sv bv iv sv iv s (x,c):=by
 refine⟨⟨?_,zai (zai h.slots _ _ h.a1.1) _ _ h.a1.1,zai (zai h.out _ _ h.a1.2.1) _ _ h.a1.2.1,zai (zai h.ins _ _ h.a1.2.2) _ _ h.a1.2.2,h.base,h.a1,h.a2,h.a3,h.ok⟩,((zv3 B w).setCell (p:=⟨b,6,none⟩) h.base _).setCell (p:=⟨b,7,none⟩) h.base _,((KeepU.refl _ _).set _ _ (.inl rfl)).set _ _ (.inl rfl),by simp,fun _ h=>.inl h,fun _ h=>.inl h⟩;simp[World.setCell,Array.getElem?_modify,h.blk]
theorem zss {w:World}{base n g cap:Nat}{T:TypeId}{L:List Bnd}{x:Bnd}{i:Nat}(h:w.ownsRow base T 3 (.slice (some ⟨g,0,none⟩) n cap) n (L.flatMap bndCells))(hi:i<L.length) :
 (((w.setCell ⟨g,i*3,none⟩ (.int .i64 x.kind)).setCell ⟨g,i*3+1,none⟩ (.int .i64 x.idx)).setCell ⟨g,i*3+2,none⟩ (.string x.type)).ownsRow base T 3 (.slice (some ⟨g,0,none⟩) n cap) n ((L.set i x).flatMap bndCells):=by
 have h3:=zci (c:=i*3+2) (u:=.string x.type) (zci (c:=i*3+1) (u:=.int .i64 x.idx) (zci (c:=i*3) (u:=.int .i64 x.kind) h));have key:∀(L:List Bnd) (i:Nat),i<L.length→((((L.flatMap bndCells).set (i*3) (.int .i64 x.kind)).set (i*3+1) (.int .i64 x.idx)).set (i*3+2) (.string x.type))=(L.set i x).flatMap bndCells:=by
  intro L
  induction L with
  | nil=>intro i hi;simp at hi
  | cons y L ih=>
    intro i hi;cases i with
    | zero=>simp[bndCells]
    | succ i=>
      have h1:=ih i (by simpa using hi);rw[List.set_cons_succ,List.flatMap_cons,List.flatMap_cons,← h1];have e:∀j,(i+1)*3+j=(i*3+j)+1+1+1:=fun j=>by omega
      have e0:(i+1)*3=(i*3)+1+1+1:=by omega
      rw[e,e,e0]
      rfl
 rw[key L i hi]at h3;exact h3
theorem WayM.put (h:WayM B w b vt vf vn sv bv iv s f){g cap k:Nat}(hv:bv=.slice (some ⟨g,0,none⟩) s.out.length cap)(hk:k<s.out.length)(x:Bnd):WStep B w (((w.setCell ⟨g,k*3,none⟩ (.int .i64 x.kind)).setCell ⟨g,k*3+1,none⟩ (.int .i64 x.idx)).setCell ⟨g,k*3+2,none⟩ (.string x.type)) b vt vf vn sv bv iv sv iv (s.put k x) f:=by
 subst hv;have hg:(Value.slice (some ⟨g,0,none⟩) s.out.length cap).ownBlock=some g:=rfl;have hgB:=(h.out.lt g hg).1;have n1:b≠g:=fun e=>h.a1.2.1 (by rw[hg,e])
 have n2:sv.ownBlock≠some g:=fun e=>(h.a2 g e).1 hg
 have n3:iv.ownBlock≠some g:=h.a3 g hg;refine⟨⟨?_,zai (zai (zai h.slots _ _ n2) _ _ n2) _ _ n2,?_,zai (zai (zai h.ins _ _ n3) _ _ n3) _ _ n3,h.base,h.a1,h.a2,h.a3,h.ok⟩,(((zv3 B w).setCell (p:=⟨g,k*3,none⟩) hgB _).setCell (p:=⟨g,k*3+1,none⟩) hgB _).setCell (p:=⟨g,k*3+2,none⟩) hgB _,(((KeepU.refl _ _).set _ _ ?_).set _ _ ?_).set _ _ ?_,by simp,fun _ h=>.inl h,fun _ h=>.inl h⟩
 ·rw[Below.heap_setCell _ _ _ _ n1,Below.heap_setCell _ _ _ _ n1,Below.heap_setCell _ _ _ _ n1]
  exact h.blk
 ·have:=zss (x:=x) h.out hk
  show World.ownsRow _ _ _ _ _ (s.out.set k x).length _;rw[List.length_set];exact this
 ·exact .inr (.inr (.inl hg))
 ·exact .inr (.inr (.inl hg))
 ·exact .inr (.inr (.inl hg))
theorem WayM.grewS (h:WayM B w b vt vf vn sv bv iv s f){x:SlU}(hg:w.grownBy w' sv.ownBlock)(ho:w'.ownsRow B 91 4 sv' (s.slots.length+1) (s.slots.flatMap zaL++zaL x))(hs:∀k,sv'.ownBlock=some k→sv.ownBlock=some k∨k=w.heap.size):WStep B w (w'.setCell ⟨b,3,none⟩ sv') b vt vf vn sv bv iv sv' iv ⟨s.slots++[x],s.out,s.ins⟩ f:=by
 have hb:some b≠sv.ownBlock:=fun e=>h.a1.1 e.symm
 have hlt:=h.lt;have hz:=hg.size;have n1:sv'.ownBlock≠some b:=fun e=>by
  rcases hs b e with e|e
  ·exact h.a1.1 e
  ·omega
 have k2:=zb8 h.out hg fun k hk=>(h.a2 k hk).1
 have k3:=zb8 h.ins hg fun k hk=>(h.a2 k hk).2
 refine⟨⟨?_,?_,zai k2 _ _ h.a1.2.1,zai k3 _ _ h.a1.2.2,h.base,⟨n1,h.a1.2⟩,fun k e=>?_,h.a3,fun l hl=>?_⟩,?_,?_,by simpa using hz,fun k e=>(hs k e).imp id (fun e=>by omega),fun _ h=>.inl h⟩
 ·have:=(hg.block b hlt hb).trans h.blk
  simp[World.setCell,Array.getElem?_modify,this]
 ·have:=zai ho ⟨b,3,none⟩ sv' n1
  simp only[List.length_append,List.length_cons,List.length_nil,List.flatMap_append,List.flatMap_cons,List.flatMap_nil,List.append_nil];exact this
 ·rcases hs k e with e|e
  ·exact h.a2 k e
  ·subst e
   exact⟨fun e=>absurd (h.out.lt _ e).2 (Nat.lt_irrefl _),fun e=>absurd (h.ins.lt _ e).2 (Nat.lt_irrefl _)⟩
 ·have:=h.ok l hl
  simp only[List.length_append,List.length_cons,List.length_nil];omega
 ·exact((zv3 B w).grown hg h.bLe (fun k hk=>(h.slots.lt k hk).1)).setCell (p:=⟨b,3,none⟩) h.base _
 ·exact((KeepU.refl _ _).grown (zv0 _) hg (fun k hk=>.inr (.inl hk))).set _ _ (.inl rfl)
theorem WayM.grewI (h:WayM B w b vt vf vn sv bv iv s f){l:LocN}(hl:l.2.1<s.slots.length)(hg:w.grownBy w' iv.ownBlock)(ho:w'.ownsRow B 122 3 iv' (s.ins.length+1) (s.ins.flatMap zb5++zb5 l))(hs:∀k,iv'.ownBlock=some k→iv.ownBlock=some k∨k=w.heap.size):WStep B w (w'.setCell ⟨b,5,none⟩ iv') b vt vf vn sv bv iv sv iv' (s.bind l) f:=by
 have hb:some b≠iv.ownBlock:=fun e=>h.a1.2.2 e.symm
 have hlt:=h.lt;have hz:=hg.size;have n1:iv'.ownBlock≠some b:=fun e=>by
  rcases hs b e with e|e
  ·exact h.a1.2.2 e
  ·omega
 have k1:=zb8 h.slots hg fun k hk e=>(h.a2 k e).2 hk
 have k2:=zb8 h.out hg fun k hk e=>h.a3 k e hk
 refine⟨⟨?_,zai k1 _ _ h.a1.1,zai k2 _ _ h.a1.2.1,?_,h.base,⟨h.a1.1,h.a1.2.1,n1⟩,fun k e=>⟨(h.a2 k e).1,fun e2=>?_⟩,fun k e e2=>?_,fun q hq=>?_⟩,?_,?_,by simpa using hz,fun _ h=>.inl h,fun k e=>(hs k e).imp id (fun e=>by omega)⟩
 ·have:=(hg.block b hlt hb).trans h.blk
  simp[World.setCell,Array.getElem?_modify,this]
 ·have:=zai ho ⟨b,5,none⟩ iv' n1
  unfold WayN.bind;simp only[List.length_append,List.length_cons,List.length_nil,List.flatMap_append,List.flatMap_cons,List.flatMap_nil,List.append_nil];exact this
 ·rcases hs k e2 with e3|e3
  ·exact(h.a2 k e).2 e3
  ·subst e3
   exact absurd (h.slots.lt _ e).2 (Nat.lt_irrefl _)
 ·rcases hs k e2 with e3|e3
  ·exact h.a3 k e e3
  ·subst e3
   exact absurd (h.out.lt _ e).2 (Nat.lt_irrefl _)
 ·rcases List.mem_append.1 (show q ∈ s.ins++[l] from hq) with h1|h1
  ·exact h.ok q h1
  ·rw[List.mem_singleton]at h1
   subst h1;exact hl
 ·exact((zv3 B w).grown hg h.bLe (fun k hk=>(h.ins.lt k hk).1)).setCell (p:=⟨b,5,none⟩) h.base _
 ·exact((KeepU.refl _ _).grown (zv0 _) hg (fun k hk=>.inr (.inr (.inr hk)))).set _ _ (.inl rfl)
theorem zpN {α:Type}{k:Nat}{cells:α→List Value}(hk:∀a,(cells a).length=k){w:World}{base n m c:Nat}{a:Option Addr}{T:TypeId}{L:List α}(h:w.ownsRow base T k (.slice a n c) n (L.flatMap cells))(hn:n=L.length)(hm:m≤n):w.ownsRow base T k (.slice a m c) m ((L.take m).flatMap cells):=by
 subst hn;obtain⟨hl,h⟩:=h;have hfl:∀(L:List α) (m:Nat),m≤L.length→(L.flatMap cells).take (m*k)=(L.take m).flatMap cells:=by
  intro L
  induction L with
  | nil=>intro m hm;simp
  | cons y L ih=>
    intro m hm;cases m with
    | zero=>simp
    | succ m=>
      rw[List.flatMap_cons,List.take_succ_cons,List.flatMap_cons,Nat.succ_mul,Nat.add_comm,List.take_append,hk y,Nat.add_sub_cancel_left,ih m (by simpa using hm),List.take_of_length_le (by rw[hk y];omega)]
 refine⟨?_,?_⟩
 ·rw[← hfl L m hm,List.length_take,hl]
  exact Nat.min_eq_left (Nat.mul_le_mul_right k hm)
 rcases h with ⟨e,h0⟩|⟨g,cap,cur,e,hb,hg,hn,hc,hs,ht⟩
 ·left
  simp only[Value.slice.injEq]at e;obtain⟨rfl,_,rfl⟩:=e;exact⟨by rw[show m=0 by omega],by omega⟩
 ·right
  simp only[Value.slice.injEq]at e;obtain⟨rfl,_,rfl⟩:=e;refine⟨g,c,cur,rfl,hb,hg,by omega,hc,hs,?_⟩;rw[← hfl L m hm,← ht,List.take_take,Nat.min_eq_left (Nat.mul_le_mul_right k hm)]
theorem zhJ (a:Option Addr)(n m c:Nat):(Value.slice a n c).ownBlock=(Value.slice a m c).ownBlock:=by cases a<;>rfl
theorem WayM.cut {a:Option Addr}{c:Nat}(h:WayM B w b vt vf vn sv bv (.slice a s.ins.length c) s f){n:Nat}(hn:n≤s.ins.length):WStep B w (w.setCell ⟨b,5,none⟩ (.slice a n c)) b vt vf vn sv bv (.slice a s.ins.length c) sv (.slice a n c) (s.cut n) f:=by
 have he:=zhJ a n s.ins.length c;have hlen:(s.ins.take n).length=n:=List.length_take_of_le hn;refine⟨⟨?_,zai h.slots _ _ h.a1.1,zai h.out _ _ h.a1.2.1,?_,h.base,⟨h.a1.1,h.a1.2.1,by rw[he];exact h.a1.2.2⟩,fun k e=>⟨(h.a2 k e).1,by rw[he];exact(h.a2 k e).2⟩,fun k e=>by rw[he];exact h.a3 k e,fun l hl=>h.ok l (List.mem_of_mem_take hl)⟩,(zv3 B w).setCell (p:=⟨b,5,none⟩) h.base _,(KeepU.refl _ _).set _ _ (.inl rfl),by simp,fun _ h=>.inl h,fun k e=>.inl (by rw[← he];exact e)⟩
 ·simp[World.setCell,Array.getElem?_modify,h.blk]
 ·have h1:=zpN zlV h.ins rfl hn
  have:=zai h1 ⟨b,5,none⟩ (.slice a n c) (by rw[he];exact h.a1.2.2);unfold WayN.cut;simp only;rw[hlen];exact this
end
end Go.Proofs.YtbbaooeioogijaaGreatDoor
