/- An argument that is a list of structs, opened. · An argument that is a unit, opened. · The rows' last step, alike for all laws: the arguments read · What is wrong with a unit · Maps from names to what they stand for; from names to number · What the names of a file stand for · Going over a tree: each place once, a whole ahead of its par -/
import Derived.Test.YtbbaooeioogijaaGreatDoorMg7
import Derived.Test.YtbbaooeioogijaaGreatDoorMg4
import Derived.SizedLaws
import Derived.Test.YtbbaooeioogijaaGreatDoorMg18
import Derived.Test.YtbbaooeioogijaaGreatDoorRows
import Derived.Test.YtbbaooeioogijaaGreatDoorMg1
import Derived.ProofKit
import Derived.OpenShut
import Derived.JoinedCond
import Derived.Below
import Derived.Maps.OwnSet
import Derived.Maps.OwnOps
import Derived.Test.YtbbaooeioogijaaGreatDoorMg11
namespace Go.Proofs.YtbbaooeioogijaaGreatDoor
open Go.ChangeShapes Go.WideShapes Go.ChangeAt Go.RowKit Go.Deep
section
variable {H:Type} {enc:TypeId × Value → H} {w:World} {base:Nat} {spare:Nat → Bool} {held:Bool}
def memCells (m:ByteArray × ByteArray):List Value:=[.string m.1,.string m.2]
def memData (m:ByteArray × ByteArray):DataW H:=.agg [.lit (.string m.1.data.toList),.lit (.string m.2.data.toList)]
theorem cellsMem:Tryz.prog.cellsOf 82 = 2:=by kernel_rfl
theorem cellsSt:Tryz.prog.cellsOf 61 = 2:=by kernel_rfl
theorem cellsS1:Tryz.prog.cellsOf 9 = 1:=by kernel_rfl
theorem cellsT1:Tryz.prog.cellsOf 40 = 1:=by kernel_rfl
theorem cellsMs:Tryz.prog.cellsOf 59 = 1:=by kernel_rfl
set_option maxRecDepth 100000 in
theorem open_mem {n:Nat} {cs:List Value} {D:DataW H} {pl:List MemPlace} (h:DataW.trod enc Tryz.prog w base spare held n 82 cs = some (D,pl)) :
 ∃ m:ByteArray × ByteArray,cs = memCells m ∧ D = memData m ∧ m.1.size ≤ maxLen:=by
 obtain ⟨xs,n',_,hx,hlen,hxs,hf⟩:=DataW.trod_struct Tryz.underlying82 h
 rw [cellsMem] at hlen
 match cs,hlen with
 | [c0,c1],_=>
   match xs,hxs with
   | [y0,y1],_=>
     have f0:=hf 0 _ rfl
     have f1:=hf 1 _ rfl
     simp [cellsS1] at f0
     simp [cellsT1] at f1
     obtain ⟨a,e0,r0,l0⟩:=DataW.trod_string Tryz.underlying9 f0
     obtain ⟨b,e1,r1,_⟩:=DataW.trod_string Tryz.underlying40 f1
     simp only [List.cons.injEq,and_true] at e0 e1
     subst e0 e1 r0 r1
     exact ⟨(a,b),rfl,congrArg Prod.fst hx,l0⟩
theorem isMems_of {w:World} {a:Option Addr} {cap:Nat} {L:List (ByteArray × ByteArray)} {B:Nat} (h:IsSl 2 memCells B w a L):IsMems B w (.slice a L.length cap) L:=
 ⟨a,cap,rfl,fun hn=>by
   obtain ⟨b,off,e,hlt,hc⟩:=h hn
   exact ⟨b,off,e,hlt,fun i m hm=>⟨hc i m hm 0 _ rfl,hc i m hm 1 _ rfl⟩⟩⟩
def srCells (q:Sr × Value × DataW H):List Value:=[.string q.1.name,q.2.1]
def srData (q:Sr × Value × DataW H):DataW H:=.agg [.lit (.string q.1.name.data.toList),q.2.2]
def SrOk (w:World) (q:Sr × Value × DataW H):Prop:=q.1.name.size ≤ maxLen ∧ IsMems w.heap.size w q.2.1 q.1.mems ∧ (∀ m ∈ q.1.mems,m.1.size ≤ maxLen) ∧ (∀ cap n,q.2.1 = .slice none n cap → n = 0 ∧ cap = 0) ∧ ((q.2.2 = .nil ∧ q.1.mems = []) ∨ ∃ rest,q.2.2 = .slice (q.1.mems.map memData) rest)
set_option maxRecDepth 100000 in
theorem open_sr {n:Nat} {cs:List Value} {D:DataW H} {pl:List MemPlace} (h:DataW.trod enc Tryz.prog w base spare held n 61 cs = some (D,pl)) :
 ∃ q:Sr × Value × DataW H,cs = srCells q ∧ D = srData q ∧ SrOk w q:=by
 obtain ⟨xs,n',_,hx,hlen,hxs,hf⟩:=DataW.trod_struct Tryz.underlying61 h
 rw [cellsSt] at hlen
 match cs,hlen with
 | [c0,c1],_=>
   match xs,hxs with
   | [y0,y1],_=>
     have f0:=hf 0 _ rfl
     have f1:=hf 1 _ rfl
     simp [cellsS1] at f0
     simp [cellsMs] at f1
     obtain ⟨a,e0,r0,l0⟩:=DataW.trod_string Tryz.underlying9 f0
     simp only [List.cons.injEq,and_true] at e0
     subst e0 r0
     obtain ⟨am,cm,L,rfl,_,hl,hn,hd,hs,hok⟩:=open_list (by decide) Tryz.underlying59 cellsMem memCells memData (fun m=>m.1.size ≤ maxLen) (fun h=>open_mem h) f1
     refine ⟨(⟨a,L⟩,.slice am L.length cm,y1.1),rfl,congrArg Prod.fst hx,l0,isMems_of hs,hok,fun cap n e=>?_,hd⟩
     simp only [Value.slice.injEq] at e
     obtain ⟨e1,e2,e3⟩:=e
     obtain ⟨h1,h2⟩:=hn e1
     exact ⟨by rw [← e2,h1];rfl,by omega⟩
theorem open_srs {fuel:Nat} {v:Value} {x:DataW H × List MemPlace} (h:DataW.trod enc Tryz.prog w base spare held fuel 22 [v] = some x) :
 ∃ (a:Option Addr) (cap:Nat) (Q:List (Sr × Value × DataW H)),v = .slice a Q.length cap ∧ Q.length ≤ cap ∧ cap ≤ maxLen ∧ (a = none → Q = [] ∧ cap = 0) ∧ ((x.1 = .nil ∧ Q = []) ∨ ∃ rest,x.1 = .slice (Q.map srData) rest) ∧ IsSrs w.heap.size w a (Q.map Prod.fst) (Q.map fun q=>q.2.1) ∧ ∀ q ∈ Q,SrOk w q:=by
 obtain ⟨a,cap,Q,hv,hl,hc,hn,hd,hs,hok⟩:=open_list (by decide) Tryz.underlying22 cellsSt srCells srData (SrOk w) (fun h=>open_sr h) h
 refine ⟨a,cap,Q,hv,hl,hc,hn,hd,⟨by simp,fun hne=>?_,fun y hy=>?_⟩,hok⟩
 ·obtain ⟨b,off,e,hlt,hc⟩:=hs (fun e=>hne (by rw [e];rfl))
  refine ⟨b,off,e,hlt,fun i y u hy hu=>?_⟩
  rw [List.getElem?_map,Option.map_eq_some_iff] at hy hu
  obtain ⟨q,hq,rfl⟩:=hy
  obtain ⟨q',hq',rfl⟩:=hu
  obtain rfl:=Option.some.inj (hq.symm.trans hq')
  exact ⟨hc i q hq 0 _ rfl,hc i q hq 1 _ rfl,(hok q (List.mem_of_getElem? hq)).2.1⟩
 ·obtain ⟨q,hq,rfl⟩:=List.mem_map.1 hy
  exact (hok q hq).1
theorem weightsAll_mem {P:Program} {e:TypeId} {l:List (DataW H)} {d:DataW H} (h:d ∈ l) {n:Nat} (hn:n ∈ d.weights P e):n ∈ DataW.weightsAll P e l:=by
 induction l with
 | nil=>cases h
 | cons x r ih=>
   rw [DataW.weightsAll]
   rcases List.mem_cons.1 h with rfl | h
   ·exact List.mem_append_left _ hn
   ·exact List.mem_append_right _ (ih h)
end
end Go.Proofs.YtbbaooeioogijaaGreatDoor
namespace Go.Proofs.YtbbaooeioogijaaGreatDoor
open Go.ChangeShapes Go.WideShapes Go.ChangeAt Go.RowKit Go.Deep
section
variable {H:Type} {enc:TypeId × Value → H} {w:World} {base:Nat} {spare:Nat → Bool} {held:Bool}
def Wt (t:TypeId) (d:DataW H):Prop:=∀ n ∈ d.weights Tryz.prog t,n ≤ 140737488351232
theorem wt_sl {t e:TypeId} {k:Nat} {l rest:List (DataW H)} (ht:Tryz.prog.underlying t = some (.slice e)) (hk:Tryz.prog.bytesOf e = k) (h:Wt t (.slice l rest)):l.length * k ≤ 140737488351232 ∧ ∀ d ∈ l,Wt e d:=by
 unfold Wt at h
 rw [DataW.weights,ht] at h
 have h0:=h _ List.mem_cons_self
 rw [hk] at h0
 have h1:l.length * k ≤ (l.length + rest.length) * k:=Nat.mul_le_mul_right k (Nat.le_add_right _ _)
 exact ⟨by omega,fun d hd n hn=>h n (List.mem_cons_of_mem _ (List.mem_append_left _ (weightsAll_mem hd hn)))⟩
theorem wt_st {t:TypeId} {fs:Array Field} {l:List (DataW H)} (ht:Tryz.prog.underlying t = some (.struct fs)) (h:Wt t (.agg l)) (j:Nat) (f:Field) (d:DataW H) (hf:fs[j]? = some f) (hd:l[j]? = some d):Wt f.type d:=fun n hn=>by
 unfold Wt at h
 rw [DataW.weights,ht] at h
 refine h n (DataW.weights_mem_each (j:=j) (t:=f.type) (d:=d) ?_ hd n hn)
 rw [List.getElem?_map,Array.getElem?_toList,hf]
 rfl
theorem cellsVrU:Tryz.prog.cellsOf 50 = 3:=by kernel_rfl
theorem cellsVrsU:Tryz.prog.cellsOf 41 = 1:=by kernel_rfl
theorem cellsTrU:Tryz.prog.cellsOf 43 = 1:=by kernel_rfl
theorem cellsTrsU:Tryz.prog.cellsOf 62 = 1:=by kernel_rfl
theorem cellsGlU:Tryz.prog.cellsOf 64 = 5:=by kernel_rfl
theorem cellsGlsU:Tryz.prog.cellsOf 23 = 1:=by kernel_rfl
theorem cellsFnU:Tryz.prog.cellsOf 45 = 5:=by kernel_rfl
theorem cellsFnsU:Tryz.prog.cellsOf 24 = 1:=by kernel_rfl
theorem cellsStsU:Tryz.prog.cellsOf 22 = 1:=by kernel_rfl
theorem cellsUnU:Tryz.prog.cellsOf 26 = 3:=by kernel_rfl
theorem cellsInU:Tryz.prog.cellsOf 3 = 1:=by kernel_rfl
theorem cellsSnU:Tryz.prog.cellsOf 9 = 1:=by kernel_rfl
theorem cellsTyU:Tryz.prog.cellsOf 40 = 1:=by kernel_rfl
theorem cellsBoU:Tryz.prog.cellsOf 4 = 1:=by kernel_rfl
theorem slMapU {α β:Type} {k:Nat} {c1:α → List Value} {c2:β → List Value} (g:α → β) (he:∀ x,c2 (g x) = c1 x) {B:Nat} {w:World} {a:Option Addr} {Q:List α} (h:IsSl k c1 B w a Q):IsSl k c2 B w a (Q.map g):=fun hn=>by
 obtain ⟨b,off,e,hlt,hc⟩:=h (fun e=>hn (by rw [e];rfl))
 refine ⟨b,off,e,hlt,fun i t ht j u hu=>?_⟩
 rw [List.getElem?_map,Option.map_eq_some_iff] at ht
 obtain ⟨q,hq,rfl⟩:=ht
 rw [he] at hu
 exact hc i q hq j u hu
theorem wt_len {α:Type} {t e:TypeId} {k:Nat} {x:DataW H} {L:List α} {data:α → DataW H} (ht:Tryz.prog.underlying t = some (.slice e)) (hk:Tryz.prog.bytesOf e = k) (hd:(x = .nil ∧ L = []) ∨ ∃ rest,x = .slice (L.map data) rest) (h:Wt t x):L.length * k ≤ 140737488351232 ∧ ∀ q ∈ L,Wt e (data q):=by
 rcases hd with ⟨_,rfl⟩ | ⟨rest,rfl⟩
 ·exact ⟨by simp,fun q hq=>by cases hq⟩
 ·obtain ⟨h1,h2⟩:=wt_sl ht hk h
  rw [List.length_map] at h1
  exact ⟨h1,fun q hq=>h2 _ (List.mem_map_of_mem hq)⟩
set_option maxRecDepth 100000 in
theorem open_vrU {n:Nat} {cs:List Value} {D:DataW H} {pl:List MemPlace} (h:DataW.trod enc Tryz.prog w base spare held n 50 cs = some (D,pl)) :
 ∃ q:VrU × DataW H,cs = vrCells q.1 ∧ D = q.2 ∧ VrOk q.1:=by
 obtain ⟨xs,n',_,hx,hlen,hxs,hf⟩:=DataW.trod_struct Tryz.underlying50 h
 rw [cellsVrU] at hlen
 match cs,hlen with
 | [c0,c1,c2],_=>
   match xs,hxs with
   | [y0,y1,y2],_=>
     have f0:=hf 0 _ rfl
     have f1:=hf 1 _ rfl
     have f2:=hf 2 _ rfl
     simp [cellsSnU] at f0
     simp [cellsTyU] at f1
     simp [cellsBoU] at f2
     obtain ⟨a0,e0,r0,w0⟩:=DataW.trod_string Tryz.underlying9 f0
     obtain ⟨a1,e1,r1,w1⟩:=DataW.trod_string Tryz.underlying40 f1
     obtain ⟨a2,e2,r2⟩:=DataW.trod_bool Tryz.underlying4 f2
     simp only [List.cons.injEq,and_true] at e0 e1 e2
     subst e0 e1 e2
     exact ⟨(⟨a0,a1,a2⟩,D),rfl,rfl,w0,w1⟩
theorem open_vrsU {fuel:Nat} {v:Value} {x:DataW H × List MemPlace} (h:DataW.trod enc Tryz.prog w base spare held fuel 41 [v] = some x) :
 ∃ L:List VrU,Wt 41 x.1 → IsVrs w.heap.size w v L:=by
 obtain ⟨a,cap,Q,hv,hl,hc,hn,hd,hs,hok⟩:=open_list (by decide) Tryz.underlying41 cellsVrU (fun q:VrU × DataW H=>vrCells q.1) Prod.snd (fun q=>VrOk q.1) (fun h=>open_vrU h) h
 refine ⟨Q.map Prod.fst,fun hf=>?_⟩
 obtain ⟨hz,_⟩:=wt_len Tryz.underlying41 (show Tryz.prog.bytesOf 50 = 40 by kernel_rfl) hd hf
 refine ⟨a,cap,by rw [List.length_map];exact hv,⟨by rw [List.length_map];exact hz,by rw [List.length_map];exact hl,hc,fun e=>⟨by rw [(hn e).1];rfl,(hn e).2⟩⟩,slMapU Prod.fst (fun _=>rfl) hs,fun y hy=>?_⟩
 obtain ⟨q,hq,rfl⟩:=List.mem_map.1 hy
 exact hok q hq
theorem open_trU {fuel:Nat} {v:Value} {x:DataW H × List MemPlace} (h:DataW.trod enc Tryz.prog w base spare held fuel 43 [v] = some x) :
 ∃ T:List Nd,Wt 43 x.1 → IsTr w.heap.size w v T:=by
 obtain ⟨a,cap,Q,hv,hl,hc,hn,hd,hs,hok⟩:=open_tree h
 refine ⟨Q,fun hf=>?_⟩
 obtain ⟨hz,_⟩:=wt_len Tryz.underlying43 (show Tryz.prog.bytesOf 47 = 64 by kernel_rfl) hd hf
 exact ⟨a,cap,hv,⟨hz,hl,hc,fun e=>⟨by rw [(hn e).1];rfl,(hn e).2⟩⟩,hs,hok⟩
theorem open_trsU {fuel:Nat} {v:Value} {x:DataW H × List MemPlace} (h:DataW.trod enc Tryz.prog w base spare held fuel 62 [v] = some x) :
 ∃ L:List (List Nd),Wt 62 x.1 → IsTrs w.heap.size w v L:=by
 obtain ⟨a,cap,Q,hv,hl,hc,hn,hd,hs,hok⟩:=open_list (by decide) Tryz.underlying62 cellsTrU (fun q:(List Nd × Value) × DataW H=>trCells q.1) Prod.snd (fun q=>Wt 43 q.2 → IsTr w.heap.size w q.1.2 q.1.1) (fun {n cs D pl} h=>by
  obtain ⟨c0,rfl⟩:∃ c0,cs = [c0]:=by
   rcases DataW.trod_slice Tryz.underlying43 h with ⟨e,_⟩ | ⟨a,len,cap,_,_,_,_,e,_⟩
   ·exact ⟨_,e⟩
   ·exact ⟨_,e⟩
  obtain ⟨T,hT⟩:=open_trU h
  exact ⟨((T,c0),D),rfl,rfl,hT⟩) h
 refine ⟨Q.map fun q=>q.1.1,fun hf=>?_⟩
 obtain ⟨hz,hz2⟩:=wt_len Tryz.underlying62 (show Tryz.prog.bytesOf 43 = 24 by kernel_rfl) hd hf
 refine ⟨a,cap,Q.map Prod.fst,by rw [List.length_map];exact hv,⟨by rw [List.length_map];exact hz,by rw [List.length_map];exact hl,hc,fun e=>⟨by rw [(hn e).1];rfl,(hn e).2⟩⟩,by rw [List.map_map];rfl,slMapU Prod.fst (fun _=>rfl) hs,fun q hq=>?_⟩
 obtain ⟨q',hq',rfl⟩:=List.mem_map.1 hq
 exact hok q' hq' (hz2 q' hq')
def GlRdU (w:World) (q:(GlU × Value) × DataW H):Prop:=Wt 64 q.2 → IsGlU w.heap.size w q.1.1 q.1.2
set_option maxRecDepth 100000 in
theorem open_glU {n:Nat} {cs:List Value} {D:DataW H} {pl:List MemPlace} (h:DataW.trod enc Tryz.prog w base spare held n 64 cs = some (D,pl)) :
 ∃ q:(GlU × Value) × DataW H,cs = glUCells q.1 ∧ D = q.2 ∧ GlRdU w q:=by
 obtain ⟨xs,n',_,hx,hlen,hxs,hf⟩:=DataW.trod_struct Tryz.underlying64 h
 rw [cellsGlU] at hlen
 match cs,hlen with
 | [c0,c1,c2,c3,c4],_=>
   match xs,hxs with
   | [y0,y1,y2],_=>
     have f0:=hf 0 _ rfl
     have f1:=hf 1 _ rfl
     have f2:=hf 2 _ rfl
     simp [cellsInU] at f0
     simp [cellsVrU] at f1
     simp [cellsTrsU] at f2
     obtain ⟨a0,e0,r0,w0⟩:=DataW.trod_int Tryz.underlying3 f0
     obtain ⟨q1,e1,_,hq1⟩:=open_vrU f1
     obtain ⟨L,hL⟩:=open_trsU f2
     simp only [vrCells,List.cons.injEq,and_true] at e0 e1
     obtain ⟨rfl,rfl,rfl⟩:=e1
     subst e0
     refine ⟨((⟨a0,q1.1,L⟩,c4),D),rfl,rfl,fun hft=>⟨hq1,bounds_i64 w0,?_⟩⟩
     have hD:=congrArg Prod.fst hx
     dsimp only at hD hft
     rw [hD] at hft
     exact hL (wt_st Tryz.underlying64 hft 2 _ _ rfl rfl)
theorem open_glsU {fuel:Nat} {v:Value} {x:DataW H × List MemPlace} (h:DataW.trod enc Tryz.prog w base spare held fuel 23 [v] = some x) :
 ∃ L:List GlU,Wt 23 x.1 → IsGlsU w.heap.size w v L:=by
 obtain ⟨a,cap,Q,hv,hl,hc,hn,hd,hs,hok⟩:=open_list (by decide) Tryz.underlying23 cellsGlU (fun q:(GlU × Value) × DataW H=>glUCells q.1) Prod.snd (GlRdU w) (fun h=>open_glU h) h
 refine ⟨Q.map fun q=>q.1.1,fun hf=>?_⟩
 obtain ⟨hz,hz2⟩:=wt_len Tryz.underlying23 (show Tryz.prog.bytesOf 64 = 72 by kernel_rfl) hd hf
 refine ⟨a,cap,Q.map Prod.fst,by rw [List.length_map];exact hv,⟨by rw [List.length_map];exact hz,by rw [List.length_map];exact hl,hc,fun e=>⟨by rw [(hn e).1];rfl,(hn e).2⟩⟩,by rw [List.map_map];rfl,slMapU Prod.fst (fun _=>rfl) hs,fun q hq=>?_⟩
 obtain ⟨q',hq',rfl⟩:=List.mem_map.1 hq
 exact hok q' hq' (hz2 q' hq')
def FnRdU (w:World) (q:(FnU × Value × Value) × DataW H):Prop:=Wt 45 q.2 → IsFnU w.heap.size w q.1.1 q.1.2.1 q.1.2.2
set_option maxRecDepth 100000 in
theorem open_fnU {n:Nat} {cs:List Value} {D:DataW H} {pl:List MemPlace} (h:DataW.trod enc Tryz.prog w base spare held n 45 cs = some (D,pl)) :
 ∃ q:(FnU × Value × Value) × DataW H,cs = fnUCells q.1 ∧ D = q.2 ∧ FnRdU w q:=by
 obtain ⟨xs,n',_,hx,hlen,hxs,hf⟩:=DataW.trod_struct Tryz.underlying45 h
 rw [cellsFnU] at hlen
 match cs,hlen with
 | [c0,c1,c2,c3,c4],_=>
   match xs,hxs with
   | [y0,y1,y2,y3,y4],_=>
     have f0:=hf 0 _ rfl
     have f1:=hf 1 _ rfl
     have f2:=hf 2 _ rfl
     have f3:=hf 3 _ rfl
     have f4:=hf 4 _ rfl
     simp [cellsInU] at f0
     simp [cellsSnU] at f1
     simp [cellsTyU] at f2
     simp [cellsVrsU] at f3
     simp [cellsTrU] at f4
     obtain ⟨a0,e0,r0,w0⟩:=DataW.trod_int Tryz.underlying3 f0
     obtain ⟨a1,e1,r1,w1⟩:=DataW.trod_string Tryz.underlying9 f1
     obtain ⟨a2,e2,r2,w2⟩:=DataW.trod_string Tryz.underlying40 f2
     obtain ⟨L,hL⟩:=open_vrsU f3
     obtain ⟨T,hT⟩:=open_trU f4
     simp only [List.cons.injEq,and_true] at e0 e1 e2
     subst e0 e1 e2
     refine ⟨((⟨a0,a1,a2,L,T⟩,c3,c4),D),rfl,rfl,fun hft=>?_⟩
     have hD:=congrArg Prod.fst hx
     dsimp only at hD hft
     rw [hD] at hft
     exact ⟨w1,w2,bounds_i64 w0,hL (wt_st Tryz.underlying45 hft 3 _ _ rfl rfl),hT (wt_st Tryz.underlying45 hft 4 _ _ rfl rfl)⟩
theorem open_fnsU {fuel:Nat} {v:Value} {x:DataW H × List MemPlace} (h:DataW.trod enc Tryz.prog w base spare held fuel 24 [v] = some x) :
 ∃ L:List FnU,Wt 24 x.1 → IsFnsU w.heap.size w v L:=by
 obtain ⟨a,cap,Q,hv,hl,hc,hn,hd,hs,hok⟩:=open_list (by decide) Tryz.underlying24 cellsFnU (fun q:(FnU × Value × Value) × DataW H=>fnUCells q.1) Prod.snd (FnRdU w) (fun h=>open_fnU h) h
 refine ⟨Q.map fun q=>q.1.1,fun hf=>?_⟩
 obtain ⟨hz,hz2⟩:=wt_len Tryz.underlying24 (show Tryz.prog.bytesOf 45 = 88 by kernel_rfl) hd hf
 refine ⟨a,cap,Q.map Prod.fst,by rw [List.length_map];exact hv,⟨by rw [List.length_map];exact hz,by rw [List.length_map];exact hl,hc,fun e=>⟨by rw [(hn e).1];rfl,(hn e).2⟩⟩,by rw [List.map_map];rfl,slMapU Prod.fst (fun _=>rfl) hs,fun q hq=>?_⟩
 obtain ⟨q',hq',rfl⟩:=List.mem_map.1 hq
 exact hok q' hq' (hz2 q' hq')
theorem open_stU {fuel:Nat} {v:Value} {x:DataW H × List MemPlace} (h:DataW.trod enc Tryz.prog w base spare held fuel 22 [v] = some x) :
 ∃ L:List Sr,Wt 22 x.1 → IsStU w.heap.size w v L:=by
 obtain ⟨a,cap,Q,hv,hl,hc,hn,hd,hs,hok⟩:=open_srs h
 refine ⟨Q.map Prod.fst,fun hf=>?_⟩
 obtain ⟨hz,hz2⟩:=wt_len Tryz.underlying22 (show Tryz.prog.bytesOf 61 = 40 by kernel_rfl) hd hf
 refine ⟨a,cap,Q.map fun q=>q.2.1,by rw [List.length_map];exact hv,⟨by rw [List.length_map];exact hl,hc,by rw [List.length_map];exact hz,fun y hy=>?_,fun u hu n c e=>?_,fun e=>⟨by rw [(hn e).1];rfl,(hn e).2⟩⟩,hs⟩
 ·obtain ⟨q,hq,rfl⟩:=List.mem_map.1 hy
  have h1:=wt_st Tryz.underlying61 (hz2 q hq) 1 _ _ rfl rfl
  exact (wt_len Tryz.underlying59 (show Tryz.prog.bytesOf 82 = 32 by kernel_rfl) (hok q hq).2.2.2.2 h1).1
 ·obtain ⟨q,hq,rfl⟩:=List.mem_map.1 hu
  exact (hok q hq).2.2.2.1 c n e
set_option maxRecDepth 100000 in
theorem open_unU {n:Nat} {cs:List Value} {D:DataW H} {pl:List MemPlace} (h:DataW.trod enc Tryz.prog w base spare held n 26 cs = some (D,pl)) (hft:Wt 26 D) :
 ∃ (u:UnU) (vs vg vf:Value),cs = [vs,vg,vf] ∧ IsUn w.heap.size w u vs vg vf:=by
 obtain ⟨xs,n',_,hx,hlen,hxs,hf⟩:=DataW.trod_struct Tryz.underlying26 h
 rw [cellsUnU] at hlen
 match cs,hlen with
 | [c0,c1,c2],_=>
   match xs,hxs with
   | [y0,y1,y2],_=>
     have f0:=hf 0 _ rfl
     have f1:=hf 1 _ rfl
     have f2:=hf 2 _ rfl
     simp [cellsStsU] at f0
     simp [cellsGlsU] at f1
     simp [cellsFnsU] at f2
     obtain ⟨L0,h0⟩:=open_stU f0
     obtain ⟨L1,h1⟩:=open_glsU f1
     obtain ⟨L2,h2⟩:=open_fnsU f2
     have hD:=congrArg Prod.fst hx
     dsimp only at hD
     rw [hD] at hft
     exact ⟨⟨L0,L1,L2⟩,c0,c1,c2,rfl,h0 (wt_st Tryz.underlying26 hft 0 _ _ rfl rfl),h1 (wt_st Tryz.underlying26 hft 1 _ _ rfl rfl),h2 (wt_st Tryz.underlying26 hft 2 _ _ rfl rfl)⟩
theorem open_unit {fuel:Nat} {cs:List Value} {x:DataW H × List MemPlace} {ts:List TypeId} {ds:List (DataW H)} (hw:(DataW.weightsEach Tryz.prog ts ds).all (· ≤ reachBytes) = true) {j:Nat} (ht:ts[j]? = some 26) (hD:ds[j]? = some x.1)
 (h:DataW.trod enc Tryz.prog w base spare held fuel 26 cs = some x):∃ (u:UnU) (vs vg vf:Value),cs = [vs,vg,vf] ∧ IsUn w.heap.size w u vs vg vf:=by
 obtain ⟨D,pl⟩:=x
 refine open_unU h fun n hn=>?_
 have h1:=List.all_eq_true.1 hw n (DataW.weights_mem_each ht hD n hn)
 have hr:reachBytes = 140737488351232:=rfl
 rw [hr] at h1
 exact of_decide_eq_true h1
end
end Go.Proofs.YtbbaooeioogijaaGreatDoor
namespace Go.Proofs.YtbbaooeioogijaaGreatDoor
open Go.ChangeShapes Go.WideShapes Go.ChangeAt Go.RowKit
theorem laidOut:laidOutB Tryz.prog = true:=by kernel_rfl
section
variable {H:Type} {enc:TypeId × Value → H}
theorem all_stays {W W':World} (hb:Below W.heap.size W W'):∀ {ts:List TypeId} {vs:List Value} {ds:List (DataW H)} {ps:List MemPlace},DataW.TrodAll enc Tryz.prog W 0 (fun _=>true) true ts vs ds ps →
 (∀ t ∈ ts,Tryz.prog.readableRec t = true ∧ t < Tryz.prog.types.size) → (∀ x ∈ ps,x.block < W.heap.size) → DataW.TrodAll enc Tryz.prog W' 0 (fun b=>decide (b < W.heap.size)) true ts vs ds ps
 | [],vs,ds,ps,h,_,_=>by
   obtain ⟨rfl,rfl,rfl⟩:=trodAll_nil h
   exact trodAll_mk0
 | t :: ts,vs,ds,ps,h,ht,hx=>by
   obtain ⟨v0,vs0,d0,ds0,p0,q0,rfl,rfl,rfl,h0,r0⟩:=trodAll_cons h
   have h1:=Below.trod laidOut (ht t (by simp)).1 (ht t (by simp)).2 h0 hb (fun x hxm=>hx x (List.mem_append.2 (Or.inl hxm)))
   have h2:=all_stays hb r0 (fun u hu=>ht u (by simp [hu])) (fun x hxm=>hx x (List.mem_append.2 (Or.inr hxm)))
   exact trodAll_cons_mk h1 h2
theorem law_post {f:Func} {s:ChangeSpec} {W W':World} {args:Array Value} {ds:List (DataW H)} {before:List MemPlace}
 (hW:DataW.Whole enc Tryz.prog f.params.toList s.vars false W args.toList ds [] before) (hv:s.vars = []) (hr:f.resultTypes.toList = [4]) (hsz:f.resultTypes.size = 1)
 (hts:∀ t ∈ f.params.toList,Tryz.prog.readableRec t = true ∧ t < Tryz.prog.types.size)
 (hfn:s.fn H (ds ++ []) = { results:=[.lit (.bool true)],args:=ds }) (hb:Below W.heap.size W W'):s.post enc Tryz.prog f false true false false W args (.bool true) W':=by
 have hlt:∀ p ∈ before,p.block < W.heap.size:=fun p hp=>hW.lt p hp
 have hW0:=hW
 obtain ⟨p,q,hA,hV,rfl,_,_⟩:=hW0
 rw [hv] at hV
 obtain ⟨_,rfl⟩:=trodVars_none hV
 refine ⟨ds,[],p ++ [],[],p,[],hW,?_,?_,?_,World.keptBut_mono (fun x hx=>⟨hx,Or.inr ?_⟩) (hb.frame (· ∈ p ++ [])),fun h=>by cases h⟩
 ·rw [hfn,hr,hsz]
  exact trodAll_cons_mk (shut_bool Tryz.underlying4 _) trodAll_mk0
 ·rw [hfn]
  exact all_stays hb hA hts (fun x hx=>hlt x (by simp [hx]))
 ·rw [hfn,hv]
  exact rfl
 ·exact List.mem_append.1 hx
end
end Go.Proofs.YtbbaooeioogijaaGreatDoor
namespace Go.Proofs.YtbbaooeioogijaaGreatDoor
theorem there_nil {K:List Kn}:∀ t:Ty,thereT [] t = true → thereT K t = true ∧ measT K t = measT [] t
 | .base _,_=>⟨rfl,rfl⟩
 | .ptr _,_=>⟨rfl,rfl⟩
 | .arr n t,h=>by
   obtain ⟨h1,h2⟩:=there_nil (K:=K) t h
   exact ⟨h1,by rw [measT,measT,h2]⟩
 | .str s,h=>by simp [thereT,findK] at h
 | .fn _ _,_=>⟨rfl,rfl⟩
mutual
theorem sized_nil {K:List Kn}:∀ t:Ty,sizedT K t = true → sizedT [] t = true
 | .base _,_=>rfl
 | .ptr t,h=>sized_nil t h
 | .arr n t,h=>by
   rw [sizedT,Bool.and_eq_true] at h ⊢
   refine ⟨sized_nil t h.1,?_⟩
   rcases ht:thereT [] t with _ | _
   ·rfl
   ·obtain ⟨h1,h2⟩:=there_nil (K:=K) t ht
    have:=h.2
    rw [h1,h2] at this
    simpa using this
 | .str _,_=>rfl
 | .fn ps r,h=>by
   rw [sizedT,Bool.and_eq_true] at h ⊢
   exact ⟨sized_nil r h.1,sizeds_nil ps h.2⟩
theorem sizeds_nil {K:List Kn}:∀ l:List Ty,sizedsT K l = true → sizedsT [] l = true
 | [],_=>rfl
 | t :: l,h=>by
   rw [sizedsT,Bool.and_eq_true] at h ⊢
   exact ⟨sized_nil t h.1,sizeds_nil l h.2⟩
end
theorem checkT_typed {K:List Kn} {t:Ty} (h:checkT K t = 0):checkT [] t = 0 ∨ checkT [] t = 4:=by
 unfold checkT at h ⊢
 split at h
 ·cases h
 rename_i h1
 split at h
 ·cases h
 rename_i h2
 split at h
 ·cases h
 split at h
 ·cases h
 rename_i h4
 rw [if_neg h1,if_neg h2]
 rcases hth:thereT [] t with _ | _
 ·exact .inr rfl
 ·have:=sized_nil (K:=K) t (by simpa using h4)
  exact .inl (by simp [this])
theorem checkS_typed {K:List Kn} {s:ByteArray} (h:checkS K s = 0):typedS s = true:=by
 have key:checkS [] s = 0 ∨ checkS [] s = 4:=by
  unfold checkS at h ⊢
  rcases ht:tyS s with _ | t
  ·rw [ht] at h;cases h
  ·rw [ht] at h
   exact checkT_typed h
 unfold typedS
 exact decide_eq_true key
theorem checkN_typed {L:List Sr} {s:ByteArray} (h:checkN L s = 0):typedS s = true:=by
 unfold checkN at h
 split at h
 ·rename_i h1;exact absurd h (learnK_ne h1)
 ·exact checkS_typed h
def firstE {α:Type} (f:α → Int):List α → Nat → Option (Int × Int)
 | [],_=>none
 | x :: r,i=>if f x ≠ 0 then some ((i:Int),f x) else firstE f r (i + 1)
theorem firstE_skip {α:Type} {f:α → Int}:∀ {L:List α} {k:Nat} (n:Nat),(∀ (j:Nat) (h:j < L.length),j < k → f L[j] = 0) → firstE f L n = firstE f (L.drop k) (n + k)
 | L,0,n,_=>by rw [List.drop_zero,Nat.add_zero]
 | [],k + 1,n,_=>by simp [firstE]
 | x :: r,k + 1,n,h=>by
   rw [firstE,if_neg (by have:=h 0 (by simp) (by omega);simpa using this),List.drop_succ_cons,firstE_skip (k:=k) (n + 1) (fun j hj hjk=>by have:=h (j + 1) (by simpa using hj) (by omega);simpa using this)]
   congr 1
   omega
theorem firstE_none {α:Type} {f:α → Int} {L:List α} (h:∀ (j:Nat) (hj:j < L.length),j < L.length → f L[j] = 0):firstE f L 0 = none:=by
 rw [firstE_skip (k:=L.length) 0 h,List.drop_length]
 rfl
theorem firstE_some {α:Type} {f:α → Int} {L:List α} {i:Nat} (hi:i < L.length) (h:∀ (j:Nat) (hj:j < L.length),j < i → f L[j] = 0) (hf:f L[i] ≠ 0):firstE f L 0 = some ((i:Int),f L[i]):=by
 rw [firstE_skip (k:=i) 0 h,List.drop_eq_getElem_cons hi,firstE,if_pos hf,Nat.zero_add]
def itemE (T:List Nd):Int:=if checkN9 T ≠ 0 then checkN9 T else if exprK (kindAt T (T.length - 1)) = false then 90 else 0
def codeE:Option (Int × Int) → Int
 | none=>0
 | some p=>p.2
def headG (L:List Sr) (g:GlU):Bool:=isNameB g.var.name && (decide (0 ≤ g.at_ ∧ g.at_ ≤ 65536) && (decide (checkN L g.var.type = 0) && objectS g.var.type))
def globE (L:List Sr) (g:GlU):Int:=if headG L g = false then 90 else if 4096 < g.init.length then 3 else codeE (firstE itemE g.init 0)
def parmE (body:Bool) (q:VrU × Ty):Int:=if q.1.type = tyB q.2 ∧ (isNameB q.1.name = true ∨ (q.1.name = ⟨#[]⟩ ∧ body = false)) ∧ (body = true ∨ q.1.vol = false) then 0 else 90
def headF (L:List Sr) (f:FnU):Bool:=isNameB f.name && (decide (0 ≤ f.at_ ∧ f.at_ ≤ 65536) && decide (checkN L f.type = 0))
def bodyE (T:List Nd):Int:=if T = [] then 0 else if checkN9 T ≠ 0 then checkN9 T else if kindAt T (T.length - 1) ≠ 21 then 90 else 0
def funcE (L:List Sr) (f:FnU):Int:=match tyS f.type with
 | some (.fn ps _)=>if headF L f = false ∨ ps.length ≠ f.params.length then 90 else if codeE (firstE (parmE (decide (f.body ≠ []))) (f.params.zip ps) 0) ≠ 0 then 90 else bodyE f.body
 | _=>90
def unitE (u:UnU):Int × Int:=
 if 64 < u.structs.length ∨ 256 < u.globals.length ∨ 256 < u.funcs.length then (0,3)
 else if (faultN u.structs).2 ≠ 0 then faultN u.structs
 else match firstE (globE u.structs) u.globals 0 with
  | some p=>p
  | none=>match firstE (funcE u.structs) u.funcs 0 with
    | some p=>p
    | none=>(0,0)
end Go.Proofs.YtbbaooeioogijaaGreatDoor
namespace Go.Proofs.YtbbaooeioogijaaGreatDoor
open Go.RowKit Go.Maps
structure Bnd where
 kind:Int
 idx:Int
 type:ByteArray
deriving DecidableEq
def bnd0:Bnd:=⟨0,0,⟨#[]⟩⟩
def bndV (b:Bnd):Value:=.agg #[.int .i64 b.kind,.int .i64 b.idx,.string b.type]
def bndCells (b:Bnd):List Value:=[.int .i64 b.kind,.int .i64 b.idx,.string b.type]
def bndD (b:Bnd):DataW Unit:=.agg [.lit (.int .i64 b.kind),.lit (.int .i64 b.idx),.lit (.string b.type.data.toList)]
def bndR (v:Value):Option (DataW Unit × List MemPlace):=match v with
 | .agg ⟨[.int .i64 k,.int .i64 i,.string t]⟩=>some (bndD ⟨k,i,t⟩,[])
 | _=>none
theorem bndR_of (b:Bnd):bndR (bndV b) = some (bndD b,[]):=rfl
theorem bndD_inj {a b:Bnd} (h:bndD a = bndD b):a = b:=by
 obtain ⟨k,i,t⟩:=a
 obtain ⟨k',i',t'⟩:=b
 unfold bndD at h
 simp only [DataW.agg.injEq,List.cons.injEq,DataW.lit.injEq,Lit.int.injEq,Lit.string.injEq,true_and,and_true] at h
 obtain ⟨rfl,rfl,h⟩:=h
 have:t = t':=by cases t;cases t';simpa using h
 rw [this]
theorem bndR_inv {v:Value} {b:Bnd} {ps:List MemPlace} (h:bndR v = some (bndD b,ps)):v = bndV b:=by
 unfold bndR at h
 split at h
 ·rename_i k i t
  simp only [Option.some.injEq,Prod.mk.injEq] at h
  have:=bndD_inj h.1
  rw [← this]
  rfl
 ·cases h
theorem bytes_inj {t s:ByteArray} (h:t.data.toList = s.data.toList):t = s:=by cases t;cases s;simpa using h
theorem keyedB:Keyed Tryz.prog 9:=string_keyed Tryz.underlying9
theorem zeroB (w:World):(zeroValue 78).run Tryz.prog w = .ok (bndV bnd0) w:=by kernel_rfl
def MapB (w:World) (b n:Nat) (f:ByteArray → Option Bnd):Prop:=∃ D:DataW Unit,w.ownsMap Tryz.prog 9 bndR b n D ∧
 ∀ s:ByteArray,has D (.string s.data.toList) = (f s).isSome ∧ D.atKey (.string s.data.toList) (bndD bnd0) = bndD ((f s).getD bnd0)
theorem MapB.same {w:World} {b n:Nat} {f g:ByteArray → Option Bnd} (h:MapB w b n f) (e:∀ s,f s = g s):MapB w b n g:=by
 obtain ⟨D,hD,hv⟩:=h
 exact ⟨D,hD,fun s=>by rw [← e s];exact hv s⟩
theorem MapB.look2 {w:World} {b n:Nat} {f:ByteArray → Option Bnd} (h:MapB w b n f) {s:ByteArray} (hs:s.size ≤ maxLen) :
 (Instr.lookup 69 (.map (some b)) (.string s) true).run Tryz.prog w = .ok (.tuple #[bndV ((f s).getD bnd0),.bool (f s).isSome]) w:=by
 obtain ⟨D,hD,hv⟩:=h
 have hkey:=Go.WideMaps.keyOf_string_mk (P:=Tryz.prog) Tryz.underlying9 hs
 obtain ⟨v,ps,hrun,hR⟩:=hD.look_ok keyedB Tryz.underlying69 (zeroB w) (bndR_of bnd0) hkey
 obtain ⟨h1,h2⟩:=hv s
 rw [h1] at hrun
 rw [h2] at hR
 rw [bndR_inv hR] at hrun
 exact hrun
theorem MapB.below {w w':World} {b n:Nat} {f:ByteArray → Option Bnd} (h:MapB w b n f) (hb:Below w.heap.size w w'):MapB w' b n f:=by
 obtain ⟨D,hD,hv⟩:=h
 exact ⟨D,hD.kept (row:=none) ⟨hb.os,hb.tape,hb.output,hb.size,fun k hk _=>hb.block k hk⟩ (by simp),hv⟩
theorem MapB.kept {w w':World} {b n:Nat} {f:ByteArray → Option Bnd} {row:Option Nat} (h:MapB w b n f) (hg:w.grownBy w' row) (hne:some b ≠ row):MapB w' b n f:=by
 obtain ⟨D,hD,hv⟩:=h
 exact ⟨D,hD.kept hg hne,hv⟩
theorem MapB.other {w:World} {b n:Nat} {f:ByteArray → Option Bnd} (h:MapB w b n f) (a:Addr) (ha:b ≠ a.block) (v:Value):MapB (w.setCell a v) b n f:=by
 obtain ⟨D,hD,hv⟩:=h
 exact ⟨D,hD.setCell ha v,hv⟩
theorem MapB.lt {w:World} {b n:Nat} {f:ByteArray → Option Bnd} (h:MapB w b n f):b < w.heap.size:=by
 obtain ⟨D,hD,_⟩:=h
 exact hD.lt
theorem mapB_nil {w:World}:MapB (w.alloc (.map #[] 0)) w.heap.size 0 (fun _=>none):=
 ⟨.map [],World.ownsMap_made _ _ _ _,fun _=>⟨rfl,rfl⟩⟩
theorem MapB.store {w:World} {b n:Nat} {f:ByteArray → Option Bnd} (h:MapB w b n f) (hn:n < maxLen) {s:ByteArray} (hs:s.size ≤ maxLen) (v:Bnd) :
 ∃ w',(Instr.mapUpdate 69 (.map (some b)) (.string s) (bndV v)).run Tryz.prog w = .ok () w' ∧
  MapB w' b (n + 1) (fun t=>if t = s then some v else f t) ∧ w.mapTurned w' b:=by
 obtain ⟨D,hD,hf⟩:=h
 have hkey:=Go.WideMaps.keyOf_string_mk (P:=Tryz.prog) Tryz.underlying9 hs
 obtain ⟨w',hrun,h1,h2⟩:=hD.store keyedB Tryz.underlying69 hn hkey (bndR_of v)
 refine ⟨w',hrun,⟨_,h1,fun t=>?_⟩,h2⟩
 by_cases e:t = s
 ·subst e
  simp only [if_true]
  exact ⟨has_put_same hD.isMap (by simp [WideAt.IsKeyLit]) _,atKey_put_same hD.isMap (by simp [WideAt.IsKeyLit]) _ _⟩
 ·simp only [if_neg e]
  have e':Lit.string t.data.toList ≠ Lit.string s.data.toList:=fun h=>e (bytes_inj (Lit.string.inj h))
  rw [has_put_other e',atKey_put_other e']
  exact hf t
end Go.Proofs.YtbbaooeioogijaaGreatDoor
namespace Go.Proofs.YtbbaooeioogijaaGreatDoor
def builtL:List (ByteArray × ByteArray):=[(⟨#[103,101,116,99,104,97,114]⟩,⟨#[102,40,41,105]⟩),(⟨#[112,117,116,99,104,97,114]⟩,⟨#[102,40,105,41,105]⟩),(⟨#[101,120,105,116]⟩,⟨#[102,40,105,41,118]⟩),(⟨#[115,101,116,106,109,112]⟩,⟨#[102,40,112,106,41,105]⟩),(⟨#[108,111,110,103,106,109,112]⟩,⟨#[102,40,112,106,44,105,41,118]⟩),(⟨#[99,111,95,110,101,119]⟩,⟨#[102,40,112,102,40,105,41,105,44,105,44,105,41,105]⟩),(⟨#[99,111,95,114,101,115,117,109,101]⟩,⟨#[102,40,105,44,105,41,105]⟩),(⟨#[99,111,95,121,105,101,108,100]⟩,⟨#[102,40,105,41,105]⟩),(⟨#[99,111,95,100,111,110,101]⟩,⟨#[102,40,105,41,105]⟩),(⟨#[99,111,95,102,114,101,101]⟩,⟨#[102,40,105,41,118]⟩)]
def entB (L:List (ByteArray × Bnd)) (n:ByteArray):Option Bnd:=(L.find? fun q=>decide (q.1 = n)).map Prod.snd
def bltE:List (ByteArray × Bnd):=(List.range 10).map fun i=>((builtL.getD i (⟨#[]⟩,⟨#[]⟩)).1,⟨4,(i:Int),(builtL.getD i (⟨#[]⟩,⟨#[]⟩)).2⟩)
structure FileN where
 ents:List (ByteArray × Bnd)
 funcs:List FnU
def FileN.look (s:FileN) (n:ByteArray):Option Bnd:=match entB s.ents n with
 | some b=>some b
 | none=>entB bltE n
def FileN.put (s:FileN) (n:ByteArray) (b:Bnd):FileN:=⟨s.ents ++ [(n,b)],s.funcs⟩
def fnU0:FnU:=⟨0,⟨#[]⟩,⟨#[]⟩,[],[]⟩
def globsN:List GlU → Nat → FileN → (Int × Int) ⊕ FileN
 | [],_,s=>.inr s
 | g :: r,i,s=>match s.look g.var.name with
   | some _=>.inl (g.at_,6)
   | none=>globsN r (i + 1) (s.put g.var.name ⟨1,(i:Int),g.var.type⟩)
def oneF (s:FileN) (x:FnU):Int ⊕ FileN:=match s.look x.name with
 | some b=>
   if b.kind ≠ 2 then .inl 6
   else if x.body ≠ [] ∧ (s.funcs.getD b.idx.toNat fnU0).body ≠ [] then .inl 6
   else if (s.funcs.getD b.idx.toNat fnU0).type ≠ x.type then .inl 131
   else if x.body ≠ [] then .inr ⟨s.ents,s.funcs.set b.idx.toNat x⟩ else .inr s
 | none=>if 128 ≤ s.funcs.length then .inl 3 else .inr ⟨s.ents ++ [(x.name,⟨2,(s.funcs.length:Int),x.type⟩)],s.funcs ++ [x]⟩
def funcsN:List FnU → FileN → (Int × Int) ⊕ FileN
 | [],s=>.inr s
 | x :: r,s=>match oneF s x with
   | .inl c=>.inl (x.at_,c)
   | .inr s'=>funcsN r s'
def fileN (u:UnU):(Int × Int) ⊕ FileN:=if (unitE u).2 ≠ 0 then .inl (unitE u) else match globsN u.globals 0 ⟨[],[]⟩ with
 | .inl f=>.inl f
 | .inr s=>funcsN u.funcs s
theorem entB_snoc (L:List (ByteArray × Bnd)) (n:ByteArray) (b:Bnd) (t:ByteArray):entB (L ++ [(n,b)]) t = match entB L t with
 | some c=>some c
 | none=>if t = n then some b else none:=by
 unfold entB
 rw [List.find?_append]
 rcases h:L.find? (fun q=>decide (q.1 = t)) with _ | c
 ·rw [h,Option.none_or,Option.map_none,List.find?_cons]
  by_cases e:t = n
  ·subst e;simp
  ·have e':¬ n = t:=fun h=>e h.symm
   simp [e,e']
 ·rw [h,Option.some_or,Option.map_some]
theorem look_put {s:FileN} {n:ByteArray} (h:s.look n = none) (b:Bnd) (t:ByteArray):(s.put n b).look t = if t = n then some b else s.look t:=by
 unfold FileN.look FileN.put at *
 simp only
 rw [entB_snoc]
 rcases e:entB s.ents t with _ | c
 ·simp only
  by_cases ht:t = n
  ·rw [if_pos ht,if_pos ht]
  ·rw [if_neg ht,if_neg ht]
 ·simp only
  by_cases ht:t = n
  ·subst ht
   rw [e] at h
   cases h
  ·rw [if_neg ht]
structure FileOk (s:FileN):Prop where
 kinds:∀ n b,entB s.ents n = some b → (b.kind = 1 ∨ b.kind = 2) ∧ (b.kind = 2 → 0 ≤ b.idx ∧ b.idx.toNat < s.funcs.length ∧ (s.funcs.getD b.idx.toNat fnU0).name = n)
 has:∀ i,i < s.funcs.length → entB s.ents (s.funcs.getD i fnU0).name = some ⟨2,(i:Int),(s.funcs.getD i fnU0).type⟩
theorem bltE_kind {n:ByteArray} {b:Bnd} (h:entB bltE n = some b):b.kind = 4:=by
 unfold entB at h
 simp only [Option.map_eq_some_iff] at h
 obtain ⟨q,hq,rfl⟩:=h
 have:=List.mem_of_find?_eq_some hq
 unfold bltE at this
 obtain ⟨i,_,rfl⟩:=List.mem_map.1 this
 rfl
theorem look_ent {s:FileN} {n:ByteArray} {b:Bnd} (h:entB s.ents n = some b):s.look n = some b:=by
 unfold FileN.look
 rw [h]
theorem look_none {s:FileN} {n:ByteArray} (h:s.look n = none):entB s.ents n = none:=by
 rcases e:entB s.ents n with _ | c
 ·rfl
 ·rw [look_ent e] at h;cases h
theorem FileOk.func {s:FileN} (h:FileOk s) {n:ByteArray} {b:Bnd} (hb:s.look n = some b) (hk:b.kind = 2):0 ≤ b.idx ∧ b.idx.toNat < s.funcs.length ∧ (s.funcs.getD b.idx.toNat fnU0).name = n:=by
 unfold FileN.look at hb
 rcases e:entB s.ents n with _ | c
 ·rw [e] at hb
  have:=bltE_kind hb
  omega
 ·rw [e] at hb
  obtain rfl:=Option.some.inj hb
  exact (h.kinds n c e).2 hk
theorem FileOk.uniq {s:FileN} (h:FileOk s) {i j:Nat} (hi:i < s.funcs.length) (hj:j < s.funcs.length) (e:(s.funcs.getD i fnU0).name = (s.funcs.getD j fnU0).name):i = j:=by
 have h1:=h.has i hi
 have h2:=h.has j hj
 rw [e,h2] at h1
 have h3:=congrArg Bnd.idx (Option.some.inj h1)
 simp only at h3
 omega
theorem fileOk_nil:FileOk ⟨[],[]⟩:=⟨(fun n b h=>by cases h),(fun i h=>by simp at h)⟩
theorem FileOk.glob {s:FileN} (h:FileOk s) {n:ByteArray} (_hn:s.look n = none) (i:Int) (t:ByteArray):FileOk (s.put n ⟨1,i,t⟩):=⟨fun m b hb=>by
 unfold FileN.put at hb
 simp only at hb
 rw [entB_snoc] at hb
 rcases e:entB s.ents m with _ | c
 ·rw [e] at hb
  simp only at hb
  split at hb
  ·obtain rfl:=Option.some.inj hb
   exact ⟨.inl rfl,fun h=>by cases h⟩
  ·cases hb
 ·rw [e] at hb
  obtain rfl:=Option.some.inj hb
  exact h.kinds m c e,fun j hj=>by
 unfold FileN.put
 simp only
 rw [entB_snoc,h.has j hj]⟩
theorem FileOk.new {s:FileN} (h:FileOk s) {x:FnU} (hn:s.look x.name = none):FileOk ⟨s.ents ++ [(x.name,⟨2,(s.funcs.length:Int),x.type⟩)],s.funcs ++ [x]⟩:=⟨fun m b hb=>by
 simp only at hb ⊢
 rw [entB_snoc] at hb
 rcases e:entB s.ents m with _ | c
 ·rw [e] at hb
  simp only at hb
  split at hb
  ·rename_i hm
   obtain rfl:=Option.some.inj hb
   refine ⟨.inr rfl,fun _=>⟨by simp,by simp,?_⟩⟩
   simp [hm]
  ·cases hb
 ·rw [e] at hb
  obtain rfl:=Option.some.inj hb
  obtain ⟨h1,h2⟩:=h.kinds m c e
  refine ⟨h1,fun hk=>?_⟩
  obtain ⟨a1,a2,a3⟩:=h2 hk
  refine ⟨a1,by rw [List.length_append];omega,?_⟩
  rw [← a3,List.getD_eq_getElem?_getD,List.getD_eq_getElem?_getD,List.getElem?_append_left a2],fun j hj=>by
 simp only at hj ⊢
 rw [List.length_append,List.length_cons,List.length_nil] at hj
 rw [entB_snoc]
 rcases Nat.lt_or_ge j s.funcs.length with h' | h'
 ·have e:(s.funcs ++ [x]).getD j fnU0 = s.funcs.getD j fnU0:=by rw [List.getD_eq_getElem?_getD,List.getD_eq_getElem?_getD,List.getElem?_append_left h']
  rw [e,h.has j h']
 ·obtain rfl:j = s.funcs.length:=by omega
  have e:(s.funcs ++ [x]).getD s.funcs.length fnU0 = x:=by simp
  rw [e,look_none hn]
  simp⟩
theorem FileOk.set {s:FileN} (h:FileOk s) {x:FnU} {i:Nat} (hx:(s.funcs.getD i fnU0).name = x.name) (ht:(s.funcs.getD i fnU0).type = x.type):FileOk ⟨s.ents,s.funcs.set i x⟩:=by
 have key:∀ j,j < s.funcs.length → ((s.funcs.set i x).getD j fnU0).name = (s.funcs.getD j fnU0).name ∧ ((s.funcs.set i x).getD j fnU0).type = (s.funcs.getD j fnU0).type:=fun j hj=>by
  by_cases e:i = j
  ·subst e
   have e2:(s.funcs.set i x).getD i fnU0 = x:=by rw [List.getD_eq_getElem?_getD,List.getElem?_set_self hj];rfl
   rw [e2]
   exact ⟨hx.symm,ht.symm⟩
  ·rw [List.getD_eq_getElem?_getD,List.getElem?_set_ne e,← List.getD_eq_getElem?_getD]
   exact ⟨rfl,rfl⟩
 refine ⟨fun m b hb=>?_,fun j hj=>?_⟩
 ·obtain ⟨h1,h2⟩:=h.kinds m b hb
  refine ⟨h1,fun hk=>?_⟩
  obtain ⟨a1,a2,a3⟩:=h2 hk
  exact ⟨a1,by simpa using a2,by rw [← a3];exact (key _ a2).1⟩
 ·have hj':j < s.funcs.length:=by simpa using hj
  obtain ⟨k1,k2⟩:=key j hj'
  simp only
  rw [k1,k2]
  exact h.has j hj'
theorem oneF_ok {s s':FileN} {x:FnU} (h:FileOk s) (e:oneF s x = .inr s'):FileOk s' ∧ ∀ y ∈ s'.funcs,y ∈ s.funcs ∨ y = x:=by
 unfold oneF at e
 rcases hl:s.look x.name with _ | b
 ·rw [hl] at e
  simp only at e
  split at e
  ·cases e
  ·obtain rfl:=Sum.inr.inj e
   exact ⟨h.new hl,fun y hy=>by simpa using hy⟩
 ·rw [hl] at e
  simp only at e
  split at e
  ·cases e
  rename_i hk
  have hk:b.kind = 2:=by simpa using hk
  split at e
  ·cases e
  split at e
  ·cases e
  rename_i ht
  have ht:(s.funcs.getD b.idx.toNat fnU0).type = x.type:=by simpa using ht
  split at e
  ·obtain rfl:=Sum.inr.inj e
   exact ⟨h.set (h.func hl hk).2.2 ht,fun y hy=>by rcases List.mem_or_eq_of_mem_set hy with h | h;exact .inl h;exact .inr h⟩
  ·obtain rfl:=Sum.inr.inj e
   exact ⟨h,fun y hy=>.inl hy⟩
theorem funcsN_ok:∀ {L:List FnU} {s s':FileN},FileOk s → funcsN L s = .inr s' → FileOk s' ∧ ∀ y ∈ s'.funcs,y ∈ s.funcs ∨ y ∈ L
 | [],s,s',h,e=>by
   rw [funcsN] at e
   obtain rfl:=Sum.inr.inj e
   exact ⟨h,fun y hy=>.inl hy⟩
 | x :: r,s,s',h,e=>by
   rw [funcsN] at e
   rcases hx:oneF s x with c | s1
   ·rw [hx] at e;cases e
   ·rw [hx] at e
    obtain ⟨h1,h2⟩:=oneF_ok h hx
    obtain ⟨h3,h4⟩:=funcsN_ok h1 e
    refine ⟨h3,fun y hy=>?_⟩
    rcases h4 y hy with hy | hy
    ·rcases h2 y hy with hy | rfl
     ·exact .inl hy
     ·exact .inr List.mem_cons_self
    ·exact .inr (List.mem_cons_of_mem _ hy)
theorem globsN_ok:∀ {L:List GlU} {i:Nat} {s s':FileN},FileOk s → globsN L i s = .inr s' → FileOk s' ∧ s'.funcs = s.funcs
 | [],i,s,s',h,e=>by
   rw [globsN] at e
   obtain rfl:=Sum.inr.inj e
   exact ⟨h,rfl⟩
 | g :: r,i,s,s',h,e=>by
   rw [globsN] at e
   rcases hl:s.look g.var.name with _ | b
   ·rw [hl] at e
    obtain ⟨h1,h2⟩:=globsN_ok (h.glob hl _ _) e
    exact ⟨h1,h2⟩
   ·rw [hl] at e;cases e
theorem firstE_all {α:Type} {f:α → Int}:∀ {L:List α} {n:Nat},firstE f L n = none → ∀ x ∈ L,f x = 0
 | [],_,_,x,h=>by cases h
 | y :: r,n,h,x,hx=>by
   rw [firstE] at h
   split at h
   ·cases h
   ·rename_i hy
    rcases List.mem_cons.1 hx with rfl | hx
    ·simpa using hy
    ·exact firstE_all h x hx
theorem firstE_ne {α:Type} {f:α → Int}:∀ {L:List α} {n:Nat} {p:Int × Int},firstE f L n = some p → p.2 ≠ 0
 | [],_,_,h=>by cases h
 | y :: r,n,p,h=>by
   rw [firstE] at h
   split at h
   ·rename_i hy
    obtain rfl:=Option.some.inj h
    exact hy
   ·exact firstE_ne h
theorem unitE_funcs {u:UnU} (h:(unitE u).2 = 0):(∀ g ∈ u.globals,globE u.structs g = 0) ∧ ∀ f ∈ u.funcs,funcE u.structs f = 0:=by
 unfold unitE at h
 split at h
 ·cases h
 split at h
 ·rename_i h1;exact absurd h h1
 rcases hg:firstE (globE u.structs) u.globals 0 with _ | p
 ·rw [hg] at h
  simp only at h
  rcases hf:firstE (funcE u.structs) u.funcs 0 with _ | p
  ·exact ⟨firstE_all hg,firstE_all hf⟩
  ·rw [hf] at h
   exact absurd h (firstE_ne hf)
 ·rw [hg] at h
  exact absurd h (firstE_ne hg)
theorem fileN_ok {u:UnU} {s:FileN} (h:fileN u = .inr s):FileOk s ∧ (unitE u).2 = 0 ∧ ∀ f ∈ s.funcs,f ∈ u.funcs ∧ funcE u.structs f = 0:=by
 unfold fileN at h
 split at h
 ·cases h
 rename_i hu
 have hu:(unitE u).2 = 0:=by simpa using hu
 rcases hg:globsN u.globals 0 ⟨[],[]⟩ with f | s1
 ·rw [hg] at h;cases h
 ·rw [hg] at h
  obtain ⟨h1,h2⟩:=globsN_ok fileOk_nil hg
  obtain ⟨h3,h4⟩:=funcsN_ok h1 h
  refine ⟨h3,hu,fun f hf=>?_⟩
  have hm:f ∈ u.funcs:=by
   rcases h4 f hf with h | h
   ·rw [h2] at h;cases h
   ·exact h
  exact ⟨hm,(unitE_funcs hu).2 f hm⟩
end Go.Proofs.YtbbaooeioogijaaGreatDoor
namespace Go.Proofs.YtbbaooeioogijaaGreatDoor
def startE (fr:List Nat):Nat → Nat → Nat
 | 0,e=>e
 | n + 1,e=>startE fr n (fr.getD (e - 1) 0)
theorem Ends.start {fr:List Nat}:∀ {st:List Nat} {e n:Nat},Ends fr st e → n ≤ st.length → startE fr n e = if 0 < n then st.getD (n - 1) 0 else e
 | _,_,0,_,_=>rfl
 | [],_,n + 1,_,h=>by simp at h
 | s :: st,e,n + 1,⟨_,h2,h3⟩,h=>by
   rw [startE,h2,Ends.start h3 (by simpa using h),if_pos (Nat.succ_pos n)]
   cases n with
   | zero=>rfl
   | succ n=>rw [if_pos (Nat.succ_pos n),Nat.add_sub_cancel,Nat.add_sub_cancel];rfl
end Go.Proofs.YtbbaooeioogijaaGreatDoor
