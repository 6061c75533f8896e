/- Units: as values of plain Lean, in memory. -/
import Derived.Test.YtkokdafkjjcgoaaGreatDoorMg22
import Derived.JoinedCond
namespace Go.Proofs.YtkokdafkjjcgoaaGreatDoor
open Go.RowKit
structure VrU where
 name:ByteArray
 type:ByteArray
 vol:Bool
structure GlU where
 at_:Int
 var:VrU
 init:List (List Nd)
structure FnU where
 at_:Int
 name:ByteArray
 type:ByteArray
 params:List VrU
 body:List Nd
structure UnU where
 structs:List Sr
 globals:List GlU
 funcs:List FnU
def vrCells (v:VrU):List Value:=[.string v.name,.string v.type,.bool v.vol]
def trCells (q:List Nd × Value):List Value:=[q.2]
def glUCells (q:GlU × Value):List Value:=[.int .i64 q.1.at_,.string q.1.var.name,.string q.1.var.type,.bool q.1.var.vol,q.2]
def fnUCells (q:FnU × Value × Value):List Value:=[.int .i64 q.1.at_,.string q.1.name,.string q.1.type,q.2.1,q.2.2]
theorem vr_len (v:VrU):(vrCells v).length = 3:=rfl
theorem tr_len (q:List Nd × Value):(trCells q).length = 1:=rfl
theorem glU_len (q:GlU × Value):(glUCells q).length = 5:=rfl
theorem fnU_len (q:FnU × Value × Value):(fnUCells q).length = 5:=rfl
def SlK (k:Nat) (a:Option Addr) (n cap:Nat):Prop:=n * k ≤ 140737488351232 ∧ n ≤ cap ∧ cap ≤ maxLen ∧ (a = none → n = 0 ∧ cap = 0)
def VrOk (v:VrU):Prop:=v.name.size ≤ maxLen ∧ v.type.size ≤ maxLen
def IsTr (B:Nat) (w:World) (v:Value) (T:List Nd):Prop:=∃ a cap,v = .slice a T.length cap ∧ SlK 64 a T.length cap ∧ IsNds B w a T ∧ ∀ x ∈ T,NdOk x
def IsVrs (B:Nat) (w:World) (v:Value) (L:List VrU):Prop:=∃ a cap,v = .slice a L.length cap ∧ SlK 40 a L.length cap ∧ IsSl 3 vrCells B w a L ∧ ∀ x ∈ L,VrOk x
def IsTrs (B:Nat) (w:World) (v:Value) (L:List (List Nd)):Prop:=∃ a cap Q,v = .slice a L.length cap ∧ SlK 24 a L.length cap ∧ Q.map Prod.fst = L ∧ IsSl 1 trCells B w a Q ∧ ∀ q ∈ Q,IsTr B w q.2 q.1
structure IsGlU (B:Nat) (w:World) (g:GlU) (v:Value):Prop where
 var:VrOk g.var
 at_:i64In g.at_
 init:IsTrs B w v g.init
structure IsFnU (B:Nat) (w:World) (f:FnU) (vp vb:Value):Prop where
 name:f.name.size ≤ maxLen
 type:f.type.size ≤ maxLen
 at_:i64In f.at_
 params:IsVrs B w vp f.params
 body:IsTr B w vb f.body
def IsGlsU (B:Nat) (w:World) (v:Value) (L:List GlU):Prop:=∃ a cap Q,v = .slice a L.length cap ∧ SlK 72 a L.length cap ∧ Q.map Prod.fst = L ∧ IsSl 5 glUCells B w a Q ∧ ∀ q ∈ Q,IsGlU B w q.1 q.2
def IsFnsU (B:Nat) (w:World) (v:Value) (L:List FnU):Prop:=∃ a cap Q,v = .slice a L.length cap ∧ SlK 88 a L.length cap ∧ Q.map Prod.fst = L ∧ IsSl 5 fnUCells B w a Q ∧ ∀ q ∈ Q,IsFnU B w q.1 q.2.1 q.2.2
def SrsOk (L:List Sr) (mv:List Value) (a:Option Addr) (cap:Nat):Prop:=L.length ≤ cap ∧ cap ≤ maxLen ∧ L.length * 40 ≤ 140737488351232 ∧ (∀ x ∈ L,x.mems.length * 32 ≤ 140737488351232) ∧ (∀ v ∈ mv,∀ n c,v = .slice none n c → n = 0 ∧ c = 0) ∧ (a = none → L = [] ∧ cap = 0)
def IsStU (B:Nat) (w:World) (v:Value) (L:List Sr):Prop:=∃ a cap mv,v = .slice a L.length cap ∧ SrsOk L mv a cap ∧ IsSrs B w a L mv
structure IsUn (B:Nat) (w:World) (u:UnU) (vs vg vf:Value):Prop where
 structs:IsStU B w vs u.structs
 globals:IsGlsU B w vg u.globals
 funcs:IsFnsU B w vf u.funcs
theorem IsTr.below {B B':Nat} {w w':World} {v:Value} {T:List Nd} (h:IsTr B w v T) (hb:Below B' w w') (hB:B ≤ B'):IsTr B w' v T:=by
 obtain ⟨a,cap,e,ho,hs,hk⟩:=h
 exact ⟨a,cap,e,ho,hs.below hb hB,hk⟩
theorem IsTr.mono {B B':Nat} {w:World} {v:Value} {T:List Nd} (h:IsTr B w v T) (hB:B ≤ B'):IsTr B' w v T:=by
 obtain ⟨a,cap,e,ho,hs,hk⟩:=h
 exact ⟨a,cap,e,ho,hs.mono hB,hk⟩
theorem IsVrs.below {B B':Nat} {w w':World} {v:Value} {L:List VrU} (h:IsVrs B w v L) (hb:Below B' w w') (hB:B ≤ B'):IsVrs B w' v L:=by
 obtain ⟨a,cap,e,ho,hs,hk⟩:=h
 exact ⟨a,cap,e,ho,hs.below hb hB,hk⟩
theorem IsVrs.mono {B B':Nat} {w:World} {v:Value} {L:List VrU} (h:IsVrs B w v L) (hB:B ≤ B'):IsVrs B' w v L:=by
 obtain ⟨a,cap,e,ho,hs,hk⟩:=h
 exact ⟨a,cap,e,ho,hs.mono hB,hk⟩
theorem IsTrs.below {B B':Nat} {w w':World} {v:Value} {L:List (List Nd)} (h:IsTrs B w v L) (hb:Below B' w w') (hB:B ≤ B'):IsTrs B w' v L:=by
 obtain ⟨a,cap,Q,e,ho,hq,hs,hk⟩:=h
 exact ⟨a,cap,Q,e,ho,hq,hs.below hb hB,fun q hm=>(hk q hm).below hb hB⟩
theorem IsTrs.mono {B B':Nat} {w:World} {v:Value} {L:List (List Nd)} (h:IsTrs B w v L) (hB:B ≤ B'):IsTrs B' w v L:=by
 obtain ⟨a,cap,Q,e,ho,hq,hs,hk⟩:=h
 exact ⟨a,cap,Q,e,ho,hq,hs.mono hB,fun q hm=>(hk q hm).mono hB⟩
theorem IsGlU.below {B B':Nat} {w w':World} {g:GlU} {v:Value} (h:IsGlU B w g v) (hb:Below B' w w') (hB:B ≤ B'):IsGlU B w' g v:=⟨h.var,h.at_,h.init.below hb hB⟩
theorem IsGlU.mono {B B':Nat} {w:World} {g:GlU} {v:Value} (h:IsGlU B w g v) (hB:B ≤ B'):IsGlU B' w g v:=⟨h.var,h.at_,h.init.mono hB⟩
theorem IsFnU.below {B B':Nat} {w w':World} {f:FnU} {vp vb:Value} (h:IsFnU B w f vp vb) (hb:Below B' w w') (hB:B ≤ B'):IsFnU B w' f vp vb:=⟨h.name,h.type,h.at_,h.params.below hb hB,h.body.below hb hB⟩
theorem IsFnU.mono {B B':Nat} {w:World} {f:FnU} {vp vb:Value} (h:IsFnU B w f vp vb) (hB:B ≤ B'):IsFnU B' w f vp vb:=⟨h.name,h.type,h.at_,h.params.mono hB,h.body.mono hB⟩
theorem IsGlsU.below {B B':Nat} {w w':World} {v:Value} {L:List GlU} (h:IsGlsU B w v L) (hb:Below B' w w') (hB:B ≤ B'):IsGlsU B w' v L:=by
 obtain ⟨a,cap,Q,e,ho,hq,hs,hk⟩:=h
 exact ⟨a,cap,Q,e,ho,hq,hs.below hb hB,fun q hm=>(hk q hm).below hb hB⟩
theorem IsGlsU.mono {B B':Nat} {w:World} {v:Value} {L:List GlU} (h:IsGlsU B w v L) (hB:B ≤ B'):IsGlsU B' w v L:=by
 obtain ⟨a,cap,Q,e,ho,hq,hs,hk⟩:=h
 exact ⟨a,cap,Q,e,ho,hq,hs.mono hB,fun q hm=>(hk q hm).mono hB⟩
theorem IsFnsU.below {B B':Nat} {w w':World} {v:Value} {L:List FnU} (h:IsFnsU B w v L) (hb:Below B' w w') (hB:B ≤ B'):IsFnsU B w' v L:=by
 obtain ⟨a,cap,Q,e,ho,hq,hs,hk⟩:=h
 exact ⟨a,cap,Q,e,ho,hq,hs.below hb hB,fun q hm=>(hk q hm).below hb hB⟩
theorem IsFnsU.mono {B B':Nat} {w:World} {v:Value} {L:List FnU} (h:IsFnsU B w v L) (hB:B ≤ B'):IsFnsU B' w v L:=by
 obtain ⟨a,cap,Q,e,ho,hq,hs,hk⟩:=h
 exact ⟨a,cap,Q,e,ho,hq,hs.mono hB,fun q hm=>(hk q hm).mono hB⟩
theorem IsStU.below {B:Nat} {w w':World} {v:Value} {L:List Sr} (h:IsStU B w v L) (hb:Below B w w'):IsStU B w' v L:=by
 obtain ⟨a,cap,mv,e,ho,hs⟩:=h
 exact ⟨a,cap,mv,e,ho,hs.below hb⟩
theorem IsStU.mono {B B':Nat} {w:World} {v:Value} {L:List Sr} (h:IsStU B w v L) (hB:B ≤ B'):IsStU B' w v L:=by
 obtain ⟨a,cap,mv,e,ho,hs⟩:=h
 exact ⟨a,cap,mv,e,ho,hs.mono hB⟩
theorem IsUn.below {B:Nat} {w w':World} {u:UnU} {vs vg vf:Value} (h:IsUn B w u vs vg vf) (hb:Below B w w'):IsUn B w' u vs vg vf:=⟨h.structs.below hb,h.globals.below hb (Nat.le_refl _),h.funcs.below hb (Nat.le_refl _)⟩
theorem IsUn.mono {B B':Nat} {w:World} {u:UnU} {vs vg vf:Value} (h:IsUn B w u vs vg vf) (hB:B ≤ B'):IsUn B' w u vs vg vf:=⟨h.structs.mono hB,h.globals.mono hB,h.funcs.mono hB⟩
theorem IsUn.go {w w':World} {u:UnU} {vs vg vf:Value} (h:IsUn w.heap.size w u vs vg vf) (hb:Below w.heap.size w w'):IsUn w'.heap.size w' u vs vg vf:=(h.below hb).mono hb.size
theorem glsU_at {B:Nat} {w:World} {v:Value} {L:List GlU} (h:IsGlsU B w v L) {i:Nat} (hi:i < L.length):∃ b off cap q,v = .slice (some ⟨b,off,none⟩) L.length cap ∧ b < B ∧ IsGlU B w L[i] q ∧
 w.cell? ⟨b,off + i * 5,none⟩ = some (.int .i64 L[i].at_) ∧ w.cell? ⟨b,off + i * 5 + 1,none⟩ = some (.string L[i].var.name) ∧ w.cell? ⟨b,off + i * 5 + 2,none⟩ = some (.string L[i].var.type) ∧ w.cell? ⟨b,off + i * 5 + 3,none⟩ = some (.bool L[i].var.vol) ∧ w.cell? ⟨b,off + i * 5 + 4,none⟩ = some q:=by
 obtain ⟨a,cap,Q,e,ho,hq,hs,hk⟩:=h
 subst hq
 have hi':i < Q.length:=by simpa using hi
 obtain ⟨b,off,rfl,hlt,hc⟩:=hs (fun e=>by rw [e] at hi';simp at hi')
 have hx:=List.getElem?_eq_getElem hi'
 have h1:=hc i _ hx
 refine ⟨b,off,cap,Q[i].2,e,hlt,?_,?_,?_,?_,?_,?_⟩
 ·simpa using hk _ (List.getElem_mem hi')
 ·simpa using h1 0 _ rfl
 ·simpa using h1 1 _ rfl
 ·simpa using h1 2 _ rfl
 ·simpa using h1 3 _ rfl
 ·simpa using h1 4 _ rfl
theorem fnsU_at {B:Nat} {w:World} {v:Value} {L:List FnU} (h:IsFnsU B w v L) {i:Nat} (hi:i < L.length):∃ b off cap vp vb,v = .slice (some ⟨b,off,none⟩) L.length cap ∧ b < B ∧ IsFnU B w L[i] vp vb ∧
 w.cell? ⟨b,off + i * 5,none⟩ = some (.int .i64 L[i].at_) ∧ w.cell? ⟨b,off + i * 5 + 1,none⟩ = some (.string L[i].name) ∧ w.cell? ⟨b,off + i * 5 + 2,none⟩ = some (.string L[i].type) ∧ w.cell? ⟨b,off + i * 5 + 3,none⟩ = some vp ∧ w.cell? ⟨b,off + i * 5 + 4,none⟩ = some vb:=by
 obtain ⟨a,cap,Q,e,ho,hq,hs,hk⟩:=h
 subst hq
 have hi':i < Q.length:=by simpa using hi
 obtain ⟨b,off,rfl,hlt,hc⟩:=hs (fun e=>by rw [e] at hi';simp at hi')
 have hx:=List.getElem?_eq_getElem hi'
 have h1:=hc i _ hx
 refine ⟨b,off,cap,Q[i].2.1,Q[i].2.2,e,hlt,?_,?_,?_,?_,?_,?_⟩
 ·simpa using hk _ (List.getElem_mem hi')
 ·simpa using h1 0 _ rfl
 ·simpa using h1 1 _ rfl
 ·simpa using h1 2 _ rfl
 ·simpa using h1 3 _ rfl
 ·simpa using h1 4 _ rfl
theorem vrs_at {B:Nat} {w:World} {v:Value} {L:List VrU} (h:IsVrs B w v L) {i:Nat} (hi:i < L.length):∃ b off cap,v = .slice (some ⟨b,off,none⟩) L.length cap ∧ b < B ∧ VrOk L[i] ∧
 w.cell? ⟨b,off + i * 3,none⟩ = some (.string L[i].name) ∧ w.cell? ⟨b,off + i * 3 + 1,none⟩ = some (.string L[i].type) ∧ w.cell? ⟨b,off + i * 3 + 2,none⟩ = some (.bool L[i].vol):=by
 obtain ⟨a,cap,e,ho,hs,hk⟩:=h
 obtain ⟨b,off,rfl,hlt,hc⟩:=hs (fun e=>by rw [e] at hi;simp at hi)
 have h1:=hc i _ (List.getElem?_eq_getElem hi)
 exact ⟨b,off,cap,e,hlt,hk _ (List.getElem_mem hi),by simpa using h1 0 _ rfl,by simpa using h1 1 _ rfl,by simpa using h1 2 _ rfl⟩
theorem trs_at {B:Nat} {w:World} {v:Value} {L:List (List Nd)} (h:IsTrs B w v L) {i:Nat} (hi:i < L.length):∃ b off cap q,v = .slice (some ⟨b,off,none⟩) L.length cap ∧ b < B ∧ IsTr B w q L[i] ∧ w.cell? ⟨b,off + i,none⟩ = some q:=by
 obtain ⟨a,cap,Q,e,ho,hq,hs,hk⟩:=h
 subst hq
 have hi':i < Q.length:=by simpa using hi
 obtain ⟨b,off,rfl,hlt,hc⟩:=hs (fun e=>by rw [e] at hi';simp at hi')
 have h1:=hc i _ (List.getElem?_eq_getElem hi')
 refine ⟨b,off,cap,Q[i].2,e,hlt,?_,?_⟩
 ·simpa using hk _ (List.getElem_mem hi')
 ·simpa using h1 0 _ rfl
theorem trs_len {B:Nat} {w:World} {v:Value} {L:List (List Nd)} (h:IsTrs B w v L):∃ a cap,v = .slice a L.length cap:=by
 obtain ⟨a,cap,_,e,_⟩:=h
 exact ⟨a,cap,e⟩
theorem glsU_len {B:Nat} {w:World} {v:Value} {L:List GlU} (h:IsGlsU B w v L):∃ a cap,v = .slice a L.length cap ∧ L.length * 72 ≤ 140737488351232:=by
 obtain ⟨a,cap,_,e,ho,_⟩:=h
 exact ⟨a,cap,e,ho.1⟩
theorem fnsU_len {B:Nat} {w:World} {v:Value} {L:List FnU} (h:IsFnsU B w v L):∃ a cap,v = .slice a L.length cap ∧ L.length * 88 ≤ 140737488351232:=by
 obtain ⟨a,cap,_,e,ho,_⟩:=h
 exact ⟨a,cap,e,ho.1⟩
end Go.Proofs.YtkokdafkjjcgoaaGreatDoor
namespace Go.Proofs.YtkokdafkjjcgoaaGreatDoor
open Go.ChangeShapes Go.WideShapes Go.ChangeAt Go.RowKit Go.Deep
section
variable {H:Type} {enc:TypeId × Value → H} {w:World} {base:Nat} {spare:Nat → Bool} {held:Bool}
def memCells (m:ByteArray × ByteArray):List Value:=[.string m.1,.string m.2]
def memData (m:ByteArray × ByteArray):DataW H:=.agg [.lit (.string m.1.data.toList),.lit (.string m.2.data.toList)]
theorem cellsMem:Tryz.prog.cellsOf 140 = 2:=by kernel_rfl
theorem cellsSt:Tryz.prog.cellsOf 114 = 2:=by kernel_rfl
theorem cellsS1:Tryz.prog.cellsOf 9 = 1:=by kernel_rfl
theorem cellsT1:Tryz.prog.cellsOf 34 = 1:=by kernel_rfl
theorem cellsMs:Tryz.prog.cellsOf 112 = 1:=by kernel_rfl
set_option maxRecDepth 100000 in
theorem open_mem {n:Nat} {cs:List Value} {D:DataW H} {pl:List MemPlace} (h:DataW.trod enc Tryz.prog w base spare held n 140 cs = some (D,pl)) :
 ∃ m:ByteArray × ByteArray,cs = memCells m ∧ D = memData m ∧ m.1.size ≤ maxLen:=by
 obtain ⟨xs,n',_,hx,hlen,hxs,hf⟩:=DataW.trod_struct Tryz.underlying140 h
 rw [cellsMem] at hlen
 match cs,hlen with
 | [c0,c1],_=>
   match xs,hxs with
   | [y0,y1],_=>
     have f0:=hf 0 _ rfl
     have f1:=hf 1 _ rfl
     simp [cellsS1] at f0
     simp [cellsT1] at f1
     obtain ⟨a,e0,r0,l0⟩:=DataW.trod_string Tryz.underlying9 f0
     obtain ⟨b,e1,r1,_⟩:=DataW.trod_string Tryz.underlying34 f1
     simp only [List.cons.injEq,and_true] at e0 e1
     subst e0 e1 r0 r1
     exact ⟨(a,b),rfl,congrArg Prod.fst hx,l0⟩
theorem isMems_of {w:World} {a:Option Addr} {cap:Nat} {L:List (ByteArray × ByteArray)} {B:Nat} (h:IsSl 2 memCells B w a L):IsMems B w (.slice a L.length cap) L:=
 ⟨a,cap,rfl,fun hn=>by
   obtain ⟨b,off,e,hlt,hc⟩:=h hn
   exact ⟨b,off,e,hlt,fun i m hm=>⟨hc i m hm 0 _ rfl,hc i m hm 1 _ rfl⟩⟩⟩
def srCells (q:Sr × Value × DataW H):List Value:=[.string q.1.name,q.2.1]
def srData (q:Sr × Value × DataW H):DataW H:=.agg [.lit (.string q.1.name.data.toList),q.2.2]
def SrOk (w:World) (q:Sr × Value × DataW H):Prop:=q.1.name.size ≤ maxLen ∧ IsMems w.heap.size w q.2.1 q.1.mems ∧ (∀ m ∈ q.1.mems,m.1.size ≤ maxLen) ∧ (∀ cap n,q.2.1 = .slice none n cap → n = 0 ∧ cap = 0) ∧ ((q.2.2 = .nil ∧ q.1.mems = []) ∨ ∃ rest,q.2.2 = .slice (q.1.mems.map memData) rest)
set_option maxRecDepth 100000 in
theorem open_sr {n:Nat} {cs:List Value} {D:DataW H} {pl:List MemPlace} (h:DataW.trod enc Tryz.prog w base spare held n 114 cs = some (D,pl)) :
 ∃ q:Sr × Value × DataW H,cs = srCells q ∧ D = srData q ∧ SrOk w q:=by
 obtain ⟨xs,n',_,hx,hlen,hxs,hf⟩:=DataW.trod_struct Tryz.underlying114 h
 rw [cellsSt] at hlen
 match cs,hlen with
 | [c0,c1],_=>
   match xs,hxs with
   | [y0,y1],_=>
     have f0:=hf 0 _ rfl
     have f1:=hf 1 _ rfl
     simp [cellsS1] at f0
     simp [cellsMs] at f1
     obtain ⟨a,e0,r0,l0⟩:=DataW.trod_string Tryz.underlying9 f0
     simp only [List.cons.injEq,and_true] at e0
     subst e0 r0
     obtain ⟨am,cm,L,rfl,_,hl,hn,hd,hs,hok⟩:=open_list (by decide) Tryz.underlying112 cellsMem memCells memData (fun m=>m.1.size ≤ maxLen) (fun h=>open_mem h) f1
     refine ⟨(⟨a,L⟩,.slice am L.length cm,y1.1),rfl,congrArg Prod.fst hx,l0,isMems_of hs,hok,fun cap n e=>?_,hd⟩
     simp only [Value.slice.injEq] at e
     obtain ⟨e1,e2,e3⟩:=e
     obtain ⟨h1,h2⟩:=hn e1
     exact ⟨by rw [← e2,h1];rfl,by omega⟩
theorem open_srs {fuel:Nat} {v:Value} {x:DataW H × List MemPlace} (h:DataW.trod enc Tryz.prog w base spare held fuel 61 [v] = some x) :
 ∃ (a:Option Addr) (cap:Nat) (Q:List (Sr × Value × DataW H)),v = .slice a Q.length cap ∧ Q.length ≤ cap ∧ cap ≤ maxLen ∧ (a = none → Q = [] ∧ cap = 0) ∧ ((x.1 = .nil ∧ Q = []) ∨ ∃ rest,x.1 = .slice (Q.map srData) rest) ∧ IsSrs w.heap.size w a (Q.map Prod.fst) (Q.map fun q=>q.2.1) ∧ ∀ q ∈ Q,SrOk w q:=by
 obtain ⟨a,cap,Q,hv,hl,hc,hn,hd,hs,hok⟩:=open_list (by decide) Tryz.underlying61 cellsSt srCells srData (SrOk w) (fun h=>open_sr h) h
 refine ⟨a,cap,Q,hv,hl,hc,hn,hd,⟨by simp,fun hne=>?_,fun y hy=>?_⟩,hok⟩
 ·obtain ⟨b,off,e,hlt,hc⟩:=hs (fun e=>hne (by rw [e];rfl))
  refine ⟨b,off,e,hlt,fun i y u hy hu=>?_⟩
  rw [List.getElem?_map,Option.map_eq_some_iff] at hy hu
  obtain ⟨q,hq,rfl⟩:=hy
  obtain ⟨q',hq',rfl⟩:=hu
  obtain rfl:=Option.some.inj (hq.symm.trans hq')
  exact ⟨hc i q hq 0 _ rfl,hc i q hq 1 _ rfl,(hok q (List.mem_of_getElem? hq)).2.1⟩
 ·obtain ⟨q,hq,rfl⟩:=List.mem_map.1 hy
  exact (hok q hq).1
theorem weightsAll_mem {P:Program} {e:TypeId} {l:List (DataW H)} {d:DataW H} (h:d ∈ l) {n:Nat} (hn:n ∈ d.weights P e):n ∈ DataW.weightsAll P e l:=by
 induction l with
 | nil=>cases h
 | cons x r ih=>
   rw [DataW.weightsAll]
   rcases List.mem_cons.1 h with rfl | h
   ·exact List.mem_append_left _ hn
   ·exact List.mem_append_right _ (ih h)
end
section
variable {H:Type} {enc:TypeId × Value → H} {w:World} {base:Nat} {spare:Nat → Bool} {held:Bool}
def Wt (t:TypeId) (d:DataW H):Prop:=∀ n ∈ d.weights Tryz.prog t,n ≤ 140737488351232
theorem wt_sl {t e:TypeId} {k:Nat} {l rest:List (DataW H)} (ht:Tryz.prog.underlying t = some (.slice e)) (hk:Tryz.prog.bytesOf e = k) (h:Wt t (.slice l rest)):l.length * k ≤ 140737488351232 ∧ ∀ d ∈ l,Wt e d:=by
 unfold Wt at h
 rw [DataW.weights,ht] at h
 have h0:=h _ List.mem_cons_self
 rw [hk] at h0
 have h1:l.length * k ≤ (l.length + rest.length) * k:=Nat.mul_le_mul_right k (Nat.le_add_right _ _)
 exact ⟨by omega,fun d hd n hn=>h n (List.mem_cons_of_mem _ (List.mem_append_left _ (weightsAll_mem hd hn)))⟩
theorem wt_st {t:TypeId} {fs:Array Field} {l:List (DataW H)} (ht:Tryz.prog.underlying t = some (.struct fs)) (h:Wt t (.agg l)) (j:Nat) (f:Field) (d:DataW H) (hf:fs[j]? = some f) (hd:l[j]? = some d):Wt f.type d:=fun n hn=>by
 unfold Wt at h
 rw [DataW.weights,ht] at h
 refine h n (DataW.weights_mem_each (j:=j) (t:=f.type) (d:=d) ?_ hd n hn)
 rw [List.getElem?_map,Array.getElem?_toList,hf]
 rfl
theorem cellsVrU:Tryz.prog.cellsOf 116 = 3:=by kernel_rfl
theorem cellsVrsU:Tryz.prog.cellsOf 75 = 1:=by kernel_rfl
theorem cellsTrU:Tryz.prog.cellsOf 23 = 1:=by kernel_rfl
theorem cellsTrsU:Tryz.prog.cellsOf 52 = 1:=by kernel_rfl
theorem cellsGlU:Tryz.prog.cellsOf 118 = 5:=by kernel_rfl
theorem cellsGlsU:Tryz.prog.cellsOf 62 = 1:=by kernel_rfl
theorem cellsFnU:Tryz.prog.cellsOf 77 = 5:=by kernel_rfl
theorem cellsFnsU:Tryz.prog.cellsOf 63 = 1:=by kernel_rfl
theorem cellsStsU:Tryz.prog.cellsOf 61 = 1:=by kernel_rfl
theorem cellsUnU:Tryz.prog.cellsOf 65 = 3:=by kernel_rfl
theorem cellsInU:Tryz.prog.cellsOf 3 = 1:=by kernel_rfl
theorem cellsSnU:Tryz.prog.cellsOf 9 = 1:=by kernel_rfl
theorem cellsTyU:Tryz.prog.cellsOf 34 = 1:=by kernel_rfl
theorem cellsBoU:Tryz.prog.cellsOf 4 = 1:=by kernel_rfl
theorem slMapU {α β:Type} {k:Nat} {c1:α → List Value} {c2:β → List Value} (g:α → β) (he:∀ x,c2 (g x) = c1 x) {B:Nat} {w:World} {a:Option Addr} {Q:List α} (h:IsSl k c1 B w a Q):IsSl k c2 B w a (Q.map g):=fun hn=>by
 obtain ⟨b,off,e,hlt,hc⟩:=h (fun e=>hn (by rw [e];rfl))
 refine ⟨b,off,e,hlt,fun i t ht j u hu=>?_⟩
 rw [List.getElem?_map,Option.map_eq_some_iff] at ht
 obtain ⟨q,hq,rfl⟩:=ht
 rw [he] at hu
 exact hc i q hq j u hu
theorem wt_len {α:Type} {t e:TypeId} {k:Nat} {x:DataW H} {L:List α} {data:α → DataW H} (ht:Tryz.prog.underlying t = some (.slice e)) (hk:Tryz.prog.bytesOf e = k) (hd:(x = .nil ∧ L = []) ∨ ∃ rest,x = .slice (L.map data) rest) (h:Wt t x):L.length * k ≤ 140737488351232 ∧ ∀ q ∈ L,Wt e (data q):=by
 rcases hd with ⟨_,rfl⟩ | ⟨rest,rfl⟩
 ·exact ⟨by simp,fun q hq=>by cases hq⟩
 ·obtain ⟨h1,h2⟩:=wt_sl ht hk h
  rw [List.length_map] at h1
  exact ⟨h1,fun q hq=>h2 _ (List.mem_map_of_mem hq)⟩
set_option maxRecDepth 100000 in
theorem open_vrU {n:Nat} {cs:List Value} {D:DataW H} {pl:List MemPlace} (h:DataW.trod enc Tryz.prog w base spare held n 116 cs = some (D,pl)) :
 ∃ q:VrU × DataW H,cs = vrCells q.1 ∧ D = q.2 ∧ VrOk q.1:=by
 obtain ⟨xs,n',_,hx,hlen,hxs,hf⟩:=DataW.trod_struct Tryz.underlying116 h
 rw [cellsVrU] at hlen
 match cs,hlen with
 | [c0,c1,c2],_=>
   match xs,hxs with
   | [y0,y1,y2],_=>
     have f0:=hf 0 _ rfl
     have f1:=hf 1 _ rfl
     have f2:=hf 2 _ rfl
     simp [cellsSnU] at f0
     simp [cellsTyU] at f1
     simp [cellsBoU] at f2
     obtain ⟨a0,e0,r0,w0⟩:=DataW.trod_string Tryz.underlying9 f0
     obtain ⟨a1,e1,r1,w1⟩:=DataW.trod_string Tryz.underlying34 f1
     obtain ⟨a2,e2,r2⟩:=DataW.trod_bool Tryz.underlying4 f2
     simp only [List.cons.injEq,and_true] at e0 e1 e2
     subst e0 e1 e2
     exact ⟨(⟨a0,a1,a2⟩,D),rfl,rfl,w0,w1⟩
theorem open_vrsU {fuel:Nat} {v:Value} {x:DataW H × List MemPlace} (h:DataW.trod enc Tryz.prog w base spare held fuel 75 [v] = some x) :
 ∃ L:List VrU,Wt 75 x.1 → IsVrs w.heap.size w v L:=by
 obtain ⟨a,cap,Q,hv,hl,hc,hn,hd,hs,hok⟩:=open_list (by decide) Tryz.underlying75 cellsVrU (fun q:VrU × DataW H=>vrCells q.1) Prod.snd (fun q=>VrOk q.1) (fun h=>open_vrU h) h
 refine ⟨Q.map Prod.fst,fun hf=>?_⟩
 obtain ⟨hz,_⟩:=wt_len Tryz.underlying75 (show Tryz.prog.bytesOf 116 = 40 by kernel_rfl) hd hf
 refine ⟨a,cap,by rw [List.length_map];exact hv,⟨by rw [List.length_map];exact hz,by rw [List.length_map];exact hl,hc,fun e=>⟨by rw [(hn e).1];rfl,(hn e).2⟩⟩,slMapU Prod.fst (fun _=>rfl) hs,fun y hy=>?_⟩
 obtain ⟨q,hq,rfl⟩:=List.mem_map.1 hy
 exact hok q hq
theorem open_trU {fuel:Nat} {v:Value} {x:DataW H × List MemPlace} (h:DataW.trod enc Tryz.prog w base spare held fuel 23 [v] = some x) :
 ∃ T:List Nd,Wt 23 x.1 → IsTr w.heap.size w v T:=by
 obtain ⟨a,cap,Q,hv,hl,hc,hn,hd,hs,hok⟩:=open_tree h
 refine ⟨Q,fun hf=>?_⟩
 obtain ⟨hz,_⟩:=wt_len Tryz.underlying23 (show Tryz.prog.bytesOf 36 = 64 by kernel_rfl) hd hf
 exact ⟨a,cap,hv,⟨hz,hl,hc,fun e=>⟨by rw [(hn e).1];rfl,(hn e).2⟩⟩,hs,hok⟩
theorem open_trsU {fuel:Nat} {v:Value} {x:DataW H × List MemPlace} (h:DataW.trod enc Tryz.prog w base spare held fuel 52 [v] = some x) :
 ∃ L:List (List Nd),Wt 52 x.1 → IsTrs w.heap.size w v L:=by
 obtain ⟨a,cap,Q,hv,hl,hc,hn,hd,hs,hok⟩:=open_list (by decide) Tryz.underlying52 cellsTrU (fun q:(List Nd × Value) × DataW H=>trCells q.1) Prod.snd (fun q=>Wt 23 q.2 → IsTr w.heap.size w q.1.2 q.1.1) (fun {n cs D pl} h=>by
  obtain ⟨c0,rfl⟩:∃ c0,cs = [c0]:=by
   rcases DataW.trod_slice Tryz.underlying23 h with ⟨e,_⟩ | ⟨a,len,cap,_,_,_,_,e,_⟩
   ·exact ⟨_,e⟩
   ·exact ⟨_,e⟩
  obtain ⟨T,hT⟩:=open_trU h
  exact ⟨((T,c0),D),rfl,rfl,hT⟩) h
 refine ⟨Q.map fun q=>q.1.1,fun hf=>?_⟩
 obtain ⟨hz,hz2⟩:=wt_len Tryz.underlying52 (show Tryz.prog.bytesOf 23 = 24 by kernel_rfl) hd hf
 refine ⟨a,cap,Q.map Prod.fst,by rw [List.length_map];exact hv,⟨by rw [List.length_map];exact hz,by rw [List.length_map];exact hl,hc,fun e=>⟨by rw [(hn e).1];rfl,(hn e).2⟩⟩,by rw [List.map_map];rfl,slMapU Prod.fst (fun _=>rfl) hs,fun q hq=>?_⟩
 obtain ⟨q',hq',rfl⟩:=List.mem_map.1 hq
 exact hok q' hq' (hz2 q' hq')
def GlRdU (w:World) (q:(GlU × Value) × DataW H):Prop:=Wt 118 q.2 → IsGlU w.heap.size w q.1.1 q.1.2
set_option maxRecDepth 100000 in
theorem open_glU {n:Nat} {cs:List Value} {D:DataW H} {pl:List MemPlace} (h:DataW.trod enc Tryz.prog w base spare held n 118 cs = some (D,pl)) :
 ∃ q:(GlU × Value) × DataW H,cs = glUCells q.1 ∧ D = q.2 ∧ GlRdU w q:=by
 obtain ⟨xs,n',_,hx,hlen,hxs,hf⟩:=DataW.trod_struct Tryz.underlying118 h
 rw [cellsGlU] at hlen
 match cs,hlen with
 | [c0,c1,c2,c3,c4],_=>
   match xs,hxs with
   | [y0,y1,y2],_=>
     have f0:=hf 0 _ rfl
     have f1:=hf 1 _ rfl
     have f2:=hf 2 _ rfl
     simp [cellsInU] at f0
     simp [cellsVrU] at f1
     simp [cellsTrsU] at f2
     obtain ⟨a0,e0,r0,w0⟩:=DataW.trod_int Tryz.underlying3 f0
     obtain ⟨q1,e1,_,hq1⟩:=open_vrU f1
     obtain ⟨L,hL⟩:=open_trsU f2
     simp only [vrCells,List.cons.injEq,and_true] at e0 e1
     obtain ⟨rfl,rfl,rfl⟩:=e1
     subst e0
     refine ⟨((⟨a0,q1.1,L⟩,c4),D),rfl,rfl,fun hft=>⟨hq1,bounds_i64 w0,?_⟩⟩
     have hD:=congrArg Prod.fst hx
     dsimp only at hD hft
     rw [hD] at hft
     exact hL (wt_st Tryz.underlying118 hft 2 _ _ rfl rfl)
theorem open_glsU {fuel:Nat} {v:Value} {x:DataW H × List MemPlace} (h:DataW.trod enc Tryz.prog w base spare held fuel 62 [v] = some x) :
 ∃ L:List GlU,Wt 62 x.1 → IsGlsU w.heap.size w v L:=by
 obtain ⟨a,cap,Q,hv,hl,hc,hn,hd,hs,hok⟩:=open_list (by decide) Tryz.underlying62 cellsGlU (fun q:(GlU × Value) × DataW H=>glUCells q.1) Prod.snd (GlRdU w) (fun h=>open_glU h) h
 refine ⟨Q.map fun q=>q.1.1,fun hf=>?_⟩
 obtain ⟨hz,hz2⟩:=wt_len Tryz.underlying62 (show Tryz.prog.bytesOf 118 = 72 by kernel_rfl) hd hf
 refine ⟨a,cap,Q.map Prod.fst,by rw [List.length_map];exact hv,⟨by rw [List.length_map];exact hz,by rw [List.length_map];exact hl,hc,fun e=>⟨by rw [(hn e).1];rfl,(hn e).2⟩⟩,by rw [List.map_map];rfl,slMapU Prod.fst (fun _=>rfl) hs,fun q hq=>?_⟩
 obtain ⟨q',hq',rfl⟩:=List.mem_map.1 hq
 exact hok q' hq' (hz2 q' hq')
def FnRdU (w:World) (q:(FnU × Value × Value) × DataW H):Prop:=Wt 77 q.2 → IsFnU w.heap.size w q.1.1 q.1.2.1 q.1.2.2
set_option maxRecDepth 100000 in
theorem open_fnU {n:Nat} {cs:List Value} {D:DataW H} {pl:List MemPlace} (h:DataW.trod enc Tryz.prog w base spare held n 77 cs = some (D,pl)) :
 ∃ q:(FnU × Value × Value) × DataW H,cs = fnUCells q.1 ∧ D = q.2 ∧ FnRdU w q:=by
 obtain ⟨xs,n',_,hx,hlen,hxs,hf⟩:=DataW.trod_struct Tryz.underlying77 h
 rw [cellsFnU] at hlen
 match cs,hlen with
 | [c0,c1,c2,c3,c4],_=>
   match xs,hxs with
   | [y0,y1,y2,y3,y4],_=>
     have f0:=hf 0 _ rfl
     have f1:=hf 1 _ rfl
     have f2:=hf 2 _ rfl
     have f3:=hf 3 _ rfl
     have f4:=hf 4 _ rfl
     simp [cellsInU] at f0
     simp [cellsSnU] at f1
     simp [cellsTyU] at f2
     simp [cellsVrsU] at f3
     simp [cellsTrU] at f4
     obtain ⟨a0,e0,r0,w0⟩:=DataW.trod_int Tryz.underlying3 f0
     obtain ⟨a1,e1,r1,w1⟩:=DataW.trod_string Tryz.underlying9 f1
     obtain ⟨a2,e2,r2,w2⟩:=DataW.trod_string Tryz.underlying34 f2
     obtain ⟨L,hL⟩:=open_vrsU f3
     obtain ⟨T,hT⟩:=open_trU f4
     simp only [List.cons.injEq,and_true] at e0 e1 e2
     subst e0 e1 e2
     refine ⟨((⟨a0,a1,a2,L,T⟩,c3,c4),D),rfl,rfl,fun hft=>?_⟩
     have hD:=congrArg Prod.fst hx
     dsimp only at hD hft
     rw [hD] at hft
     exact ⟨w1,w2,bounds_i64 w0,hL (wt_st Tryz.underlying77 hft 3 _ _ rfl rfl),hT (wt_st Tryz.underlying77 hft 4 _ _ rfl rfl)⟩
theorem open_fnsU {fuel:Nat} {v:Value} {x:DataW H × List MemPlace} (h:DataW.trod enc Tryz.prog w base spare held fuel 63 [v] = some x) :
 ∃ L:List FnU,Wt 63 x.1 → IsFnsU w.heap.size w v L:=by
 obtain ⟨a,cap,Q,hv,hl,hc,hn,hd,hs,hok⟩:=open_list (by decide) Tryz.underlying63 cellsFnU (fun q:(FnU × Value × Value) × DataW H=>fnUCells q.1) Prod.snd (FnRdU w) (fun h=>open_fnU h) h
 refine ⟨Q.map fun q=>q.1.1,fun hf=>?_⟩
 obtain ⟨hz,hz2⟩:=wt_len Tryz.underlying63 (show Tryz.prog.bytesOf 77 = 88 by kernel_rfl) hd hf
 refine ⟨a,cap,Q.map Prod.fst,by rw [List.length_map];exact hv,⟨by rw [List.length_map];exact hz,by rw [List.length_map];exact hl,hc,fun e=>⟨by rw [(hn e).1];rfl,(hn e).2⟩⟩,by rw [List.map_map];rfl,slMapU Prod.fst (fun _=>rfl) hs,fun q hq=>?_⟩
 obtain ⟨q',hq',rfl⟩:=List.mem_map.1 hq
 exact hok q' hq' (hz2 q' hq')
theorem open_stU {fuel:Nat} {v:Value} {x:DataW H × List MemPlace} (h:DataW.trod enc Tryz.prog w base spare held fuel 61 [v] = some x) :
 ∃ L:List Sr,Wt 61 x.1 → IsStU w.heap.size w v L:=by
 obtain ⟨a,cap,Q,hv,hl,hc,hn,hd,hs,hok⟩:=open_srs h
 refine ⟨Q.map Prod.fst,fun hf=>?_⟩
 obtain ⟨hz,hz2⟩:=wt_len Tryz.underlying61 (show Tryz.prog.bytesOf 114 = 40 by kernel_rfl) hd hf
 refine ⟨a,cap,Q.map fun q=>q.2.1,by rw [List.length_map];exact hv,⟨by rw [List.length_map];exact hl,hc,by rw [List.length_map];exact hz,fun y hy=>?_,fun u hu n c e=>?_,fun e=>⟨by rw [(hn e).1];rfl,(hn e).2⟩⟩,hs⟩
 ·obtain ⟨q,hq,rfl⟩:=List.mem_map.1 hy
  have h1:=wt_st Tryz.underlying114 (hz2 q hq) 1 _ _ rfl rfl
  exact (wt_len Tryz.underlying112 (show Tryz.prog.bytesOf 140 = 32 by kernel_rfl) (hok q hq).2.2.2.2 h1).1
 ·obtain ⟨q,hq,rfl⟩:=List.mem_map.1 hu
  exact (hok q hq).2.2.2.1 c n e
set_option maxRecDepth 100000 in
theorem open_unU {n:Nat} {cs:List Value} {D:DataW H} {pl:List MemPlace} (h:DataW.trod enc Tryz.prog w base spare held n 65 cs = some (D,pl)) (hft:Wt 65 D) :
 ∃ (u:UnU) (vs vg vf:Value),cs = [vs,vg,vf] ∧ IsUn w.heap.size w u vs vg vf:=by
 obtain ⟨xs,n',_,hx,hlen,hxs,hf⟩:=DataW.trod_struct Tryz.underlying65 h
 rw [cellsUnU] at hlen
 match cs,hlen with
 | [c0,c1,c2],_=>
   match xs,hxs with
   | [y0,y1,y2],_=>
     have f0:=hf 0 _ rfl
     have f1:=hf 1 _ rfl
     have f2:=hf 2 _ rfl
     simp [cellsStsU] at f0
     simp [cellsGlsU] at f1
     simp [cellsFnsU] at f2
     obtain ⟨L0,h0⟩:=open_stU f0
     obtain ⟨L1,h1⟩:=open_glsU f1
     obtain ⟨L2,h2⟩:=open_fnsU f2
     have hD:=congrArg Prod.fst hx
     dsimp only at hD
     rw [hD] at hft
     exact ⟨⟨L0,L1,L2⟩,c0,c1,c2,rfl,h0 (wt_st Tryz.underlying65 hft 0 _ _ rfl rfl),h1 (wt_st Tryz.underlying65 hft 1 _ _ rfl rfl),h2 (wt_st Tryz.underlying65 hft 2 _ _ rfl rfl)⟩
theorem open_unit {fuel:Nat} {cs:List Value} {x:DataW H × List MemPlace} {ts:List TypeId} {ds:List (DataW H)} (hw:(DataW.weightsEach Tryz.prog ts ds).all (· ≤ reachBytes) = true) {j:Nat} (ht:ts[j]? = some 65) (hD:ds[j]? = some x.1)
 (h:DataW.trod enc Tryz.prog w base spare held fuel 65 cs = some x):∃ (u:UnU) (vs vg vf:Value),cs = [vs,vg,vf] ∧ IsUn w.heap.size w u vs vg vf:=by
 obtain ⟨D,pl⟩:=x
 refine open_unU h fun n hn=>?_
 have h1:=List.all_eq_true.1 hw n (DataW.weights_mem_each ht hD n hn)
 have hr:reachBytes = 140737488351232:=rfl
 rw [hr] at h1
 exact of_decide_eq_true h1
end
end Go.Proofs.YtkokdafkjjcgoaaGreatDoor
namespace Go.Proofs.YtkokdafkjjcgoaaGreatDoor
open Go.ChangeShapes Go.WideShapes Go.ChangeAt Go.RowKit
theorem laidOut:laidOutB Tryz.prog = true:=by kernel_rfl
section
variable {H:Type} {enc:TypeId × Value → H}
theorem all_stays {W W':World} (hb:Below W.heap.size W W'):∀ {ts:List TypeId} {vs:List Value} {ds:List (DataW H)} {ps:List MemPlace},DataW.TrodAll enc Tryz.prog W 0 (fun _=>true) true ts vs ds ps →
 (∀ t ∈ ts,Tryz.prog.readableRec t = true ∧ t < Tryz.prog.types.size) → (∀ x ∈ ps,x.block < W.heap.size) → DataW.TrodAll enc Tryz.prog W' 0 (fun b=>decide (b < W.heap.size)) true ts vs ds ps
 | [],vs,ds,ps,h,_,_=>by
   obtain ⟨rfl,rfl,rfl⟩:=trodAll_nil h
   exact trodAll_mk0
 | t :: ts,vs,ds,ps,h,ht,hx=>by
   obtain ⟨v0,vs0,d0,ds0,p0,q0,rfl,rfl,rfl,h0,r0⟩:=trodAll_cons h
   have h1:=Below.trod laidOut (ht t (by simp)).1 (ht t (by simp)).2 h0 hb (fun x hxm=>hx x (List.mem_append.2 (Or.inl hxm)))
   have h2:=all_stays hb r0 (fun u hu=>ht u (by simp [hu])) (fun x hxm=>hx x (List.mem_append.2 (Or.inr hxm)))
   exact trodAll_cons_mk h1 h2
theorem law_post {f:Func} {s:ChangeSpec} {W W':World} {args:Array Value} {ds:List (DataW H)} {before:List MemPlace}
 (hW:DataW.Whole enc Tryz.prog f.params.toList s.vars false W args.toList ds [] before) (hv:s.vars = []) (hr:f.resultTypes.toList = [4]) (hsz:f.resultTypes.size = 1)
 (hts:∀ t ∈ f.params.toList,Tryz.prog.readableRec t = true ∧ t < Tryz.prog.types.size)
 (hfn:s.fn H (ds ++ []) = { results:=[.lit (.bool true)],args:=ds }) (hb:Below W.heap.size W W'):s.post enc Tryz.prog f false true false false W args (.bool true) W':=by
 have hlt:∀ p ∈ before,p.block < W.heap.size:=fun p hp=>hW.lt p hp
 have hW0:=hW
 obtain ⟨p,q,hA,hV,rfl,_,_⟩:=hW0
 rw [hv] at hV
 obtain ⟨_,rfl⟩:=trodVars_none hV
 refine ⟨ds,[],p ++ [],[],p,[],hW,?_,?_,?_,World.keptBut_mono (fun x hx=>⟨hx,Or.inr ?_⟩) (hb.frame (· ∈ p ++ [])),fun h=>by cases h⟩
 ·rw [hfn,hr,hsz]
  exact trodAll_cons_mk (shut_bool Tryz.underlying4 _) trodAll_mk0
 ·rw [hfn]
  exact all_stays hb hA hts (fun x hx=>hlt x (by simp [hx]))
 ·rw [hfn,hv]
  exact rfl
 ·exact List.mem_append.1 hx
end
end Go.Proofs.YtkokdafkjjcgoaaGreatDoor
