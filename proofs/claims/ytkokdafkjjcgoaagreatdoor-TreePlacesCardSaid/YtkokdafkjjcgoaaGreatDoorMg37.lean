/- Units of one's own in memory: which blocks their parts lie i -/
import Derived.Test.YtkokdafkjjcgoaaGreatDoorOwnU
namespace Go.Proofs.YtkokdafkjjcgoaaGreatDoor
open Go.RowKit
def meCells (m:ByteArray × ByteArray):List Value:=[.string m.1,.string m.2]
def srCellsU (q:Sr × Value):List Value:=[.string q.1.name,q.2]
theorem me_lenU (m:ByteArray × ByteArray):(meCells m).length = 2:=rfl
theorem sr_lenU (q:Sr × Value):(srCellsU q).length = 2:=rfl
def MesP (P:Nat → Prop) (w:World) (v:Value) (ms:List (ByteArray × ByteArray)):Prop:=∃ a cap,v = .slice a ms.length cap ∧ SlK 32 a ms.length cap ∧ IsSlU 2 meCells P w a ms
def SrP (P:Nat → Prop) (w:World) (q:Sr × Value):Prop:=q.1.name.size ≤ maxLen ∧ MesP P w q.2 q.1.mems
def TrPU (P:Nat → Prop) (w:World) (q:List Nd × Value):Prop:=∃ a cap,q.2 = .slice a q.1.length cap ∧ SlK 64 a q.1.length cap ∧ IsSlU 6 ndCells P w a q.1 ∧ ∀ x ∈ q.1,NdOk x
def TrsP (P:Nat → Prop) (w:World) (v:Value) (L:List (List Nd)):Prop:=∃ a cap Q,v = .slice a L.length cap ∧ SlK 24 a L.length cap ∧ Q.map Prod.fst = L ∧ IsSlU 1 trCells P w a Q ∧ ∀ q ∈ Q,TrPU P w q
def GlPU (P:Nat → Prop) (w:World) (q:GlU × Value):Prop:=VrOk q.1.var ∧ i64In q.1.at_ ∧ TrsP P w q.2 q.1.init
theorem MesP.keep {P P':Nat → Prop} {w w':World} {v:Value} {ms:List (ByteArray × ByteArray)} (h:MesP P w v ms) (hk:KeepPU P P' w w'):MesP P' w' v ms:=by
 obtain ⟨a,cap,e,ho,hs⟩:=h
 exact ⟨a,cap,e,ho,hs.keep hk⟩
theorem SrP.keep {P P':Nat → Prop} {w w':World} {q:Sr × Value} (h:SrP P w q) (hk:KeepPU P P' w w'):SrP P' w' q:=⟨h.1,h.2.keep hk⟩
theorem TrPU.keep {P P':Nat → Prop} {w w':World} {q:List Nd × Value} (h:TrPU P w q) (hk:KeepPU P P' w w'):TrPU P' w' q:=by
 obtain ⟨a,cap,e,ho,hs,hv⟩:=h
 exact ⟨a,cap,e,ho,hs.keep hk,hv⟩
theorem TrsP.keep {P P':Nat → Prop} {w w':World} {v:Value} {L:List (List Nd)} (h:TrsP P w v L) (hk:KeepPU P P' w w'):TrsP P' w' v L:=by
 obtain ⟨a,cap,Q,e,ho,hQ,hs,hv⟩:=h
 exact ⟨a,cap,Q,e,ho,hQ,hs.keep hk,fun q hq=>(hv q hq).keep hk⟩
theorem GlPU.keep {P P':Nat → Prop} {w w':World} {q:GlU × Value} (h:GlPU P w q) (hk:KeepPU P P' w w'):GlPU P' w' q:=⟨h.1,h.2.1,h.2.2.keep hk⟩
theorem MesP.is {P:Nat → Prop} {w:World} {v:Value} {ms:List (ByteArray × ByteArray)} {B:Nat} (h:MesP P w v ms) (hP:∀ b,P b → b < B):IsMems B w v ms:=by
 obtain ⟨a,cap,e,ho,hs⟩:=h
 refine ⟨a,cap,e,fun hn=>?_⟩
 obtain ⟨b,off,ea,hb,hc⟩:=hs hn
 exact ⟨b,off,ea,hP b hb,fun i m hm=>⟨by simpa using hc i m hm 0 _ rfl,hc i m hm 1 _ rfl⟩⟩
theorem TrPU.is {P:Nat → Prop} {w:World} {q:List Nd × Value} {B:Nat} (h:TrPU P w q) (hP:∀ b,P b → b < B):IsTr B w q.2 q.1:=by
 obtain ⟨a,cap,e,ho,hs,hv⟩:=h
 exact ⟨a,cap,e,ho,hs.sl hP,hv⟩
theorem TrsP.is {P:Nat → Prop} {w:World} {v:Value} {L:List (List Nd)} {B:Nat} (h:TrsP P w v L) (hP:∀ b,P b → b < B):IsTrs B w v L:=by
 obtain ⟨a,cap,Q,e,ho,hQ,hs,hv⟩:=h
 exact ⟨a,cap,Q,e,ho,hQ,hs.sl hP,fun q hq=>(hv q hq).is hP⟩
def RowU {α:Type} (T:TypeId) (k:Nat) (cells:α → List Value) (Ok:(Nat → Prop) → World → α → Prop) (B:Nat) (w:World) (v:Value) (Q:List α):Prop:=
 w.ownsRow B T k v Q.length (Q.flatMap cells) ∧ ∀ q ∈ Q,Ok (OffU B w v) w q
abbrev KeepOkU {α:Type} (Ok:(Nat → Prop) → World → α → Prop):Prop:=∀ (P P':Nat → Prop) (w w':World) (q:α),Ok P w q → KeepPU P P' w w' → Ok P' w' q
theorem rowU_nil {α:Type} {T:TypeId} {k:Nat} {cells:α → List Value} {Ok:(Nat → Prop) → World → α → Prop} (B:Nat) (w:World):RowU T k cells Ok B w (.slice none 0 0) []:=⟨World.ownsRow_nil _ _ _ _,fun _ h=>by cases h⟩
theorem RowU.kept {α:Type} {T:TypeId} {k:Nat} {cells:α → List Value} {Ok:(Nat → Prop) → World → α → Prop} (hk:KeepOkU Ok) {B:Nat} {w w':World} {v:Value} {Q:List α} {row:Option Nat} (h:RowU T k cells Ok B w v Q) (hg:w.grownBy w' row) (hr:∀ r,row = some r → r < B):RowU T k cells Ok B w' v Q:=
 ⟨h.1.kept hg (by
   cases hv:v.ownBlock with
   | none=>exact .inl rfl
   | some r=>exact .inr (fun e=>by have:=hr r e.symm;have:=(h.1.lt r hv).1;omega)),fun q hq=>hk _ _ _ _ _ (h.2 q hq) (keep_offU hg (fun r e=>.inl (hr r e)))⟩
theorem RowU.step {α:Type} {T:TypeId} {k:Nat} {cells:α → List Value} {Ok:(Nat → Prop) → World → α → Prop} (hk:KeepOkU Ok) {B:Nat} {w w':World} {v:Value} {i g cap:Nat} {Q:List α} {q:α} (h:RowU T k cells Ok B w v Q) (hq:Ok (OffU B w v) w q) (hi:Q.length = i)
 (hown:w'.ownsRow B T k (.slice (some ⟨g,0,none⟩) (i + 1) cap) (i + 1) (Q.flatMap cells ++ cells q)) (hg:w.grownBy w' v.ownBlock) (hv:v.ownBlock = some g ∨ g = w.heap.size):RowU T k cells Ok B w' (.slice (some ⟨g,0,none⟩) (i + 1) cap) (Q ++ [q]):=by
 have hkp:KeepPU (OffU B w v) (OffU B w' (.slice (some ⟨g,0,none⟩) (i + 1) cap)) w w':=keep_pushU hg (fun g' e=>by cases e;exact hv)
 refine ⟨?_,fun x hx=>?_⟩
 ·rw [List.length_append,List.flatMap_append,hi]
  simpa using hown
 ·rcases List.mem_append.1 hx with hx | hx
  ·exact hk _ _ _ _ _ (h.2 x hx) hkp
  ·rw [List.mem_singleton.1 hx]
   exact hk _ _ _ _ _ hq hkp
abbrev SrsRowU:Nat → World → Value → List (Sr × Value) → Prop:=RowU 114 2 srCellsU SrP
abbrev TrsRowU:Nat → World → Value → List (List Nd × Value) → Prop:=RowU 23 1 trCells TrPU
abbrev GlsRowU:Nat → World → Value → List (GlU × Value) → Prop:=RowU 118 5 glUCells GlPU
theorem srP_keep:KeepOkU SrP:=fun _ _ _ _ _ h k=>h.keep k
theorem trP_keep:KeepOkU TrPU:=fun _ _ _ _ _ h k=>h.keep k
theorem glP_keepU:KeepOkU GlPU:=fun _ _ _ _ _ h k=>h.keep k
theorem TrsRowU.p {B:Nat} {w:World} {v:Value} {Q:List (List Nd × Value)} (h:TrsRowU B w v Q) (hz:Q.length * 24 ≤ 140737488351232):TrsP (fun b=>B ≤ b ∧ b < w.heap.size) w v (Q.map Prod.fst):=by
 obtain ⟨a,cap,e,h1,h2,hs,hn⟩:=own_slU tr_len h.1 rfl
 exact ⟨a,cap,Q,by rw [List.length_map];exact e,⟨by rw [List.length_map];exact hz,by rw [List.length_map];exact h1,h2,fun e=>by rw [List.length_map];exact hn e⟩,rfl,hs.keep (fun b hb=>⟨rfl,hb.2⟩),fun q hq=>(h.2 q hq).keep (fun b hb=>⟨rfl,hb.1,hb.2.1⟩)⟩
def StsP (P:Nat → Prop) (w:World) (v:Value) (L:List Sr):Prop:=∃ a cap Q,v = .slice a L.length cap ∧ SlK 40 a L.length cap ∧ Q.map Prod.fst = L ∧ IsSlU 2 srCellsU P w a Q ∧ ∀ q ∈ Q,SrP P w q
def GlsP (P:Nat → Prop) (w:World) (v:Value) (L:List GlU):Prop:=∃ a cap Q,v = .slice a L.length cap ∧ SlK 72 a L.length cap ∧ Q.map Prod.fst = L ∧ IsSlU 5 glUCells P w a Q ∧ ∀ q ∈ Q,GlPU P w q
theorem StsP.keep {P P':Nat → Prop} {w w':World} {v:Value} {L:List Sr} (h:StsP P w v L) (hk:KeepPU P P' w w'):StsP P' w' v L:=by
 obtain ⟨a,cap,Q,e,ho,hQ,hs,hv⟩:=h
 exact ⟨a,cap,Q,e,ho,hQ,hs.keep hk,fun q hq=>(hv q hq).keep hk⟩
theorem GlsP.keep {P P':Nat → Prop} {w w':World} {v:Value} {L:List GlU} (h:GlsP P w v L) (hk:KeepPU P P' w w'):GlsP P' w' v L:=by
 obtain ⟨a,cap,Q,e,ho,hQ,hs,hv⟩:=h
 exact ⟨a,cap,Q,e,ho,hQ,hs.keep hk,fun q hq=>(hv q hq).keep hk⟩
theorem SrsRowU.p {B:Nat} {w:World} {v:Value} {Q:List (Sr × Value)} (h:SrsRowU B w v Q) (hz:Q.length * 40 ≤ 140737488351232):StsP (fun b=>B ≤ b ∧ b < w.heap.size) w v (Q.map Prod.fst):=by
 obtain ⟨a,cap,e,h1,h2,hs,hn⟩:=own_slU sr_lenU h.1 rfl
 exact ⟨a,cap,Q,by rw [List.length_map];exact e,⟨by rw [List.length_map];exact hz,by rw [List.length_map];exact h1,h2,fun e=>by rw [List.length_map];exact hn e⟩,rfl,hs.keep (fun b hb=>⟨rfl,hb.2⟩),fun q hq=>(h.2 q hq).keep (fun b hb=>⟨rfl,hb.1,hb.2.1⟩)⟩
theorem GlsRowU.p {B:Nat} {w:World} {v:Value} {Q:List (GlU × Value)} (h:GlsRowU B w v Q) (hz:Q.length * 72 ≤ 140737488351232):GlsP (fun b=>B ≤ b ∧ b < w.heap.size) w v (Q.map Prod.fst):=by
 obtain ⟨a,cap,e,h1,h2,hs,hn⟩:=own_slU glU_len h.1 rfl
 exact ⟨a,cap,Q,by rw [List.length_map];exact e,⟨by rw [List.length_map];exact hz,by rw [List.length_map];exact h1,h2,fun e=>by rw [List.length_map];exact hn e⟩,rfl,hs.keep (fun b hb=>⟨rfl,hb.2⟩),fun q hq=>(h.2 q hq).keep (fun b hb=>⟨rfl,hb.1,hb.2.1⟩)⟩
theorem StsP.is {P:Nat → Prop} {w:World} {v:Value} {L:List Sr} {B:Nat} (h:StsP P w v L) (hP:∀ b,P b → b < B):IsStU B w v L:=by
 obtain ⟨a,cap,Q,e,ho,hQ,hs,hv⟩:=h
 subst hQ
 refine ⟨a,cap,Q.map Prod.snd,e,⟨ho.2.1,ho.2.2.1,ho.1,fun x hx=>?_,fun u hu n c eu=>?_,fun ea=>?_⟩,⟨by simp,fun hn=>?_,fun x hx=>?_⟩⟩
 ·obtain ⟨q,hq,rfl⟩:=List.mem_map.1 hx
  obtain ⟨_,_,_,h1,_⟩:=(hv q hq).2
  exact h1.1
 ·obtain ⟨q,hq,rfl⟩:=List.mem_map.1 hu
  obtain ⟨a',c',e',h1,_⟩:=(hv q hq).2
  rw [e'] at eu
  cases eu
  exact h1.2.2.2 rfl
 ·have:=ho.2.2.2 ea
  exact ⟨List.eq_nil_of_length_eq_zero this.1,this.2⟩
 ·obtain ⟨b,off,ea,hb,hc⟩:=hs (fun e=>hn (by rw [e];rfl))
  refine ⟨b,off,ea,hP b hb,fun i x u hx hu=>?_⟩
  rw [List.getElem?_map,Option.map_eq_some_iff] at hx hu
  obtain ⟨q,hq,rfl⟩:=hx
  obtain ⟨q',hq',rfl⟩:=hu
  rw [hq] at hq'
  obtain rfl:=Option.some.inj hq'
  exact ⟨by simpa using hc i q hq 0 _ rfl,hc i q hq 1 _ rfl,(hv q (List.mem_of_getElem? hq)).2.is hP⟩
 ·obtain ⟨q,hq,rfl⟩:=List.mem_map.1 hx
  exact (hv q hq).1
theorem GlsP.is {P:Nat → Prop} {w:World} {v:Value} {L:List GlU} {B:Nat} (h:GlsP P w v L) (hP:∀ b,P b → b < B):IsGlsU B w v L:=by
 obtain ⟨a,cap,Q,e,ho,hQ,hs,hv⟩:=h
 exact ⟨a,cap,Q,e,ho,hQ,hs.sl hP,fun q hq=>⟨(hv q hq).1,(hv q hq).2.1,(hv q hq).2.2.is hP⟩⟩
structure FnC (B:Nat) (w:World) (q:FnU × Value × Value):Prop where
 name:q.1.name.size ≤ maxLen
 type:q.1.type.size ≤ maxLen
 at_:i64In q.1.at_
 plen:q.1.params.length * 40 ≤ 140737488351232
 pok:∀ x ∈ q.1.params,VrOk x
 blen:q.1.body.length * 64 ≤ 140737488351232
 bok:∀ x ∈ q.1.body,NdOk x
 params:w.ownsRow B 116 3 q.2.1 q.1.params.length (q.1.params.flatMap vrCells)
 body:w.ownsRow B 36 6 q.2.2 q.1.body.length (q.1.body.flatMap ndCells)
 apart:∀ k,q.2.1.ownBlock = some k → q.2.2.ownBlock ≠ some k
def BlkU (q:FnU × Value × Value) (k:Nat):Prop:=q.2.1.ownBlock = some k ∨ q.2.2.ownBlock = some k
def ApartU (q q':FnU × Value × Value):Prop:=∀ k,BlkU q k → ¬ BlkU q' k
def FnsC (B:Nat) (w:World) (v:Value) (Q:List (FnU × Value × Value)):Prop:=w.ownsRow B 77 5 v Q.length (Q.flatMap fnUCells) ∧ (∀ q ∈ Q,FnC B w q ∧ ∀ k,BlkU q k → v.ownBlock ≠ some k) ∧ Q.Pairwise ApartU
theorem fnsC_nil (B:Nat) (w:World):FnsC B w (.slice none 0 0) []:=⟨World.ownsRow_nil _ _ _ _,fun _ h=>(by cases h),List.Pairwise.nil⟩
theorem FnC.lt {B:Nat} {w:World} {q:FnU × Value × Value} (h:FnC B w q) {k:Nat} (hk:BlkU q k):B ≤ k ∧ k < w.heap.size:=by
 rcases hk with hk | hk
 ·exact h.params.lt k hk
 ·exact h.body.lt k hk
theorem own_keptU {w w':World} {B n k:Nat} {T:TypeId} {v:Value} {xs:List Value} {row:Option Nat} (h:w.ownsRow B T k v n xs) (hg:w.grownBy w' row) (hr:∀ r,row = some r → v.ownBlock ≠ some r):w'.ownsRow B T k v n xs:=
 h.kept hg (by
  cases hv:v.ownBlock with
  | none=>exact .inl rfl
  | some r=>exact .inr (fun e=>hr r e.symm hv))
theorem FnC.kept {B:Nat} {w w':World} {q:FnU × Value × Value} {row:Option Nat} (h:FnC B w q) (hg:w.grownBy w' row) (hr:∀ r,row = some r → ¬ BlkU q r):FnC B w' q:=
 ⟨h.name,h.type,h.at_,h.plen,h.pok,h.blen,h.bok,own_keptU h.params hg (fun r e hv=>hr r e (.inl hv)),own_keptU h.body hg (fun r e hv=>hr r e (.inr hv)),h.apart⟩
theorem FnsC.kept {B:Nat} {w w':World} {v:Value} {Q:List (FnU × Value × Value)} {row:Option Nat} (h:FnsC B w v Q) (hg:w.grownBy w' row) (hr:∀ r,row = some r → r < B):FnsC B w' v Q:=
 ⟨own_keptU h.1 hg (fun r e hv=>by have:=hr r e;have:=(h.1.lt r hv).1;omega),fun q hq=>⟨(h.2.1 q hq).1.kept hg (fun r e hb=>by have:=hr r e;have:=((h.2.1 q hq).1.lt hb).1;omega),(h.2.1 q hq).2⟩,h.2.2⟩
theorem FnsC.step {B:Nat} {w w':World} {v:Value} {i g cap:Nat} {Q:List (FnU × Value × Value)} {q:FnU × Value × Value} (h:FnsC B w v Q) (hq:FnC B w q) (hv:∀ k,BlkU q k → v.ownBlock ≠ some k) (hn:∀ x ∈ Q,ApartU x q) (hi:Q.length = i)
 (hown:w'.ownsRow B 77 5 (.slice (some ⟨g,0,none⟩) (i + 1) cap) (i + 1) (Q.flatMap fnUCells ++ fnUCells q)) (hg:w.grownBy w' v.ownBlock) (hgv:v.ownBlock = some g ∨ g = w.heap.size):FnsC B w' (.slice (some ⟨g,0,none⟩) (i + 1) cap) (Q ++ [q]):=by
 have key:∀ x,FnC B w x → (∀ k,BlkU x k → v.ownBlock ≠ some k) → FnC B w' x ∧ ∀ k,BlkU x k → (Value.slice (some ⟨g,0,none⟩) (i + 1) cap).ownBlock ≠ some k:=fun x h1 h2=>by
  refine ⟨h1.kept hg (fun r e hb=>h2 r hb e),fun k hb e=>?_⟩
  simp only [Value.ownBlock,Option.some.injEq] at e
  subst e
  rcases hgv with e | e
  ·exact h2 _ hb e
  ·have:=(h1.lt hb).2;omega
 refine ⟨?_,fun x hx=>?_,?_⟩
 ·rw [List.length_append,List.flatMap_append,hi]
  simpa using hown
 ·rcases List.mem_append.1 hx with hx | hx
  ·exact key x (h.2.1 x hx).1 (h.2.1 x hx).2
  ·rw [List.mem_singleton.1 hx]
   exact key q hq hv
 ·rw [List.pairwise_append]
  exact ⟨h.2.2,List.pairwise_singleton _ _,fun x hx y hy=>by rw [List.mem_singleton.1 hy];exact hn x hx⟩
theorem FnC.is {B:Nat} {w:World} {q:FnU × Value × Value} (h:FnC B w q):IsFnU w.heap.size w q.1 q.2.1 q.2.2:=by
 obtain ⟨a,c,e,h1,h2,hs,hn⟩:=own_slU vr_len h.params rfl
 obtain ⟨a2,c2,e2,h3,h4,hs2,hn2⟩:=own_slU nd_len h.body rfl
 exact ⟨h.name,h.type,h.at_,⟨a,c,e,⟨h.plen,h1,h2,hn⟩,hs.sl (fun b hb=>hb.2.2),h.pok⟩,⟨a2,c2,e2,⟨h.blen,h3,h4,hn2⟩,hs2.sl (fun b hb=>hb.2.2),h.bok⟩⟩
theorem FnsC.is {B:Nat} {w:World} {v:Value} {Q:List (FnU × Value × Value)} (h:FnsC B w v Q) (hz:Q.length * 88 ≤ 140737488351232):IsFnsU w.heap.size w v (Q.map Prod.fst):=by
 obtain ⟨a,cap,e,h1,h2,hs,hn⟩:=own_slU fnU_len h.1 rfl
 exact ⟨a,cap,Q,by rw [List.length_map];exact e,⟨by rw [List.length_map];exact hz,by rw [List.length_map];exact h1,h2,fun e=>by rw [List.length_map];exact hn e⟩,rfl,hs.sl (fun b hb=>hb.2.2),fun q hq=>(h.2.1 q hq).1.is⟩
structure UnC (B:Nat) (w:World) (u:UnU) (vs vg vf:Value) (M:Nat) (Q:List (FnU × Value × Value)):Prop where
 structs:StsP (fun b=>B ≤ b ∧ b < M) w vs u.structs
 globals:GlsP (fun b=>B ≤ b ∧ b < M) w vg u.globals
 funcs:FnsC M w vf Q
 fns:Q.map Prod.fst = u.funcs
 few:u.funcs.length * 88 ≤ 140737488351232
 low:B ≤ M ∧ M ≤ w.heap.size
theorem UnC.is {B M:Nat} {w:World} {u:UnU} {vs vg vf:Value} {Q:List (FnU × Value × Value)} (h:UnC B w u vs vg vf M Q):IsUn w.heap.size w u vs vg vf:=by
 have hf:=h.funcs.is (by rw [← List.length_map (f:=Prod.fst),h.fns];exact h.few)
 rw [h.fns] at hf
 exact ⟨h.structs.is (fun b hb=>Nat.lt_of_lt_of_le hb.2 h.low.2),h.globals.is (fun b hb=>Nat.lt_of_lt_of_le hb.2 h.low.2),hf⟩
theorem UnC.below {B M:Nat} {w w':World} {u:UnU} {vs vg vf:Value} {Q:List (FnU × Value × Value)} (h:UnC B w u vs vg vf M Q) (hb:Below w.heap.size w w'):UnC B w' u vs vg vf M Q:=
 ⟨h.structs.keep (fun b hb'=>⟨hb.block b (Nat.lt_of_lt_of_le hb'.2 h.low.2),hb'⟩),h.globals.keep (fun b hb'=>⟨hb.block b (Nat.lt_of_lt_of_le hb'.2 h.low.2),hb'⟩),h.funcs.kept (grn_blwU none hb) (fun r e=>by cases e),h.fns,h.few,h.low.1,Nat.le_trans h.low.2 hb.size⟩
end Go.Proofs.YtkokdafkjjcgoaaGreatDoor
namespace Go
theorem step_append_none {P:Program} {w:World} {ops:Array Oper} {o:Oper} {a:Act} {K:Act → World → Prop} {Q:Exit → Act → World → Prop} {E:Prop} (hgd:o.guard = none) (s x:Operand) (t:TypeId)
 (ho:o.op = .call { callee:=.builtin .append,args:=#[s,x],argTypes:=#[t,t] })
 (base:Nat) (e:TypeId) (i:TypeInfo) (size:Nat) (ht:P.underlying t = some (.slice e)) (hi:P.info? e = some i)
 (v:Value) (n:Nat) (xs:List Value) (hs:a.eval s = v) (hown:w.ownsRow base e size v n xs) (hx:a.eval x = .slice none 0 0)
 (h:K (a.put o.dst v) w):if Region.wanted o (yielded ops a.tmps) = true then Oper.wp P o a w K Q else E:=by
 have hw:Region.wanted o (yielded ops a.tmps) = true:=by simp [Region.wanted,hgd]
 rw [if_pos hw]
 have hrun:=run_append_owned_none (P:=P) (w:=w) base t o.type e i size ht hi v n xs hown
 unfold Oper.wp
 simp [execOp,ho,resolve,invoke,builtin,hs,hx,hrun,Result.andThen]
 exact h
end Go
namespace Go.Proofs.YtkokdafkjjcgoaaGreatDoor
open Go.RowKit
theorem infoMe:(Tryz.prog.info? 140).map (fun i=>(i.zero,i.size,i.bytes)) = some (some (.agg #[.string ⟨#[]⟩,.string ⟨#[]⟩]),2,32):=by kernel_rfl
theorem pairM_inv {ms:List (ByteArray × ByteArray)} {i:Nat} {q:Value × Value} (h:(pairM ms)[i]? = some q):∃ m,ms[i]? = some m ∧ q = (.string m.1,.string m.2):=by
 rw [pairM,List.getElem?_map,Option.map_eq_some_iff] at h
 obtain ⟨m,hm,rfl⟩:=h
 exact ⟨m,hm,rfl⟩
theorem pairM_length (ms:List (ByteArray × ByteArray)):(pairM ms).length = ms.length:=by simp [pairM]
theorem mems_one (ms:List (ByteArray × ByteArray)):∀ u ∈ flat2 (pairM ms),u.oneCell' = true:=fun u hu=>by
 obtain ⟨j,hj,rfl⟩:=List.getElem_of_mem hu
 obtain ⟨i,q,hq,hj'⟩:=flat2_inv (List.getElem?_eq_getElem hj)
 obtain ⟨m,hm,rfl⟩:=pairM_inv hq
 rcases hj' with ⟨_,h⟩ | ⟨_,h⟩ <;> rw [h] <;> rfl
theorem mems_news {B:Nat} {w:World} {ad:Addr} {n c:Nat} {ms:List (ByteArray × ByteArray)} (h:IsMems B w (.slice (some ad) n c) ms):∀ (j:Nat) u,(flat2 (pairM ms))[j]? = some u → w.cell? (ad.add j) = some u:=fun j u hu=>by
 obtain ⟨i,q,hq,hj⟩:=flat2_inv hu
 obtain ⟨m,hm,rfl⟩:=pairM_inv hq
 obtain ⟨a,cap,e,hr⟩:=h
 obtain ⟨b,off,ha,_,hc⟩:=hr (fun e=>by rw [e] at hm;simp at hm)
 simp only [Value.slice.injEq] at e
 obtain ⟨e,_,_⟩:=e
 subst ha
 obtain rfl:=Option.some.inj e
 obtain ⟨h1,h2⟩:=hc i m hm
 rcases hj with ⟨rfl,rfl⟩ | ⟨rfl,rfl⟩
 ·rw [add2];exact h1
 ·rw [add2,← Nat.add_assoc];exact h2
theorem own_mems {w:World} {base:Nat} {v:Value} {ms:List (ByteArray × ByteArray)} (h:w.ownsRow base 140 2 v ms.length (flat2 (pairM ms))):IsMems w.heap.size w v ms:=by
 rcases h.2 with ⟨rfl,h0⟩ | ⟨g,cap,cur,rfl,_,hg,_⟩
 ·have:ms = []:=List.eq_nil_of_length_eq_zero h0
  subst this
  exact ⟨none,0,rfl,fun h=>absurd rfl h⟩
 ·refine ⟨_,cap,rfl,fun _=>⟨g,0,rfl,lt_of_heap hg,fun i m hm=>?_⟩⟩
  have hp:(pairM ms)[i]? = some (.string m.1,.string m.2):=by rw [pairM,List.getElem?_map,hm];rfl
  obtain ⟨h1,h2⟩:=flat2_at hp
  have c1:=h.cells (g:=g) rfl _ _ h1
  have c2:=h.cells (g:=g) rfl _ _ h2
  rw [add2,Nat.zero_add] at c1 c2
  exact ⟨by rw [Nat.zero_add];exact c1,by rw [Nat.zero_add];exact c2⟩
theorem IsMems.kept {B:Nat} {w w':World} {v:Value} {ms:List (ByteArray × ByteArray)} {row:Option Nat} (h:IsMems B w v ms) (hB:B ≤ w.heap.size) (hg:w.grownBy w' row) (hne:∀ k,v.ownBlock = some k → row ≠ some k):IsMems B w' v ms:=by
 obtain ⟨a,cap,rfl,hr⟩:=h
 refine ⟨a,cap,rfl,fun hn=>?_⟩
 obtain ⟨b,off,rfl,hlt,hc⟩:=hr hn
 refine ⟨b,off,rfl,hlt,fun i m hm=>?_⟩
 have hb:some b ≠ row:=fun e=>hne b rfl e.symm
 rw [hg.cell_far _ (show b < w.heap.size by omega) hb,hg.cell_far _ (show b < w.heap.size by omega) hb]
 exact hc i m hm
end Go.Proofs.YtkokdafkjjcgoaaGreatDoor
namespace Go.Proofs.YtkokdafkjjcgoaaGreatDoor
open Go.RowKit
theorem grn_setU (W:World) (b j:Nat) (v:Value):W.grownBy (W.setCell ⟨b,j,none⟩ v) (some b):=
 ⟨rfl,rfl,rfl,by simp,fun k _ hne=>Below.heap_setCell _ _ _ _ (fun e=>hne (by rw [e]))⟩
theorem set_blkU {w:World} {b i:Nat} {c:Array Value} {T:TypeId} (h:w.heap[b]? = some (.cells c T (0,0))) (v:Value):(w.setCell ⟨b,i,none⟩ v).heap[b]? = some (.cells (c.setIfInBounds i v) T (0,0)):=by
 simp [World.setCell,Array.getElem?_modify,h]
theorem box_stepU {wB wx w11:World} {o:Obj} {r3 j:Nat} {c:Array Value} {vj:Value} {T:TypeId} (hr3:r3 < wB.heap.size) (hX:wx.heap[r3]? = some (.cells c T (0,0))) (hj:c[j]? = some vj) (hG:wB.grownBy wx (some r3)) (hrow:∀ b,vj.ownBlock = some b → wB.heap.size ≤ b) (hgr:(wx.alloc o).grownBy w11 vj.ownBlock) (v':Value) :
 (w11.cell? ⟨r3,j,none⟩ = some vj ∧ w11.frozen? ⟨r3,j,none⟩ = false) ∧ (w11.setCell ⟨r3,j,none⟩ v').heap[r3]? = some (.cells (c.setIfInBounds j v') T (0,0)) ∧ w11.grownBy (w11.setCell ⟨r3,j,none⟩ v') (some r3) ∧ wB.grownBy (w11.setCell ⟨r3,j,none⟩ v') (some r3):=by
 have hlt:r3 < (wx.alloc o).heap.size:=by have:=lt_of_heap hX;simp;omega
 have hne:some r3 ≠ vj.ownBlock:=fun e=>by have:=hrow _ e.symm;omega
 have hX11:w11.heap[r3]? = some (.cells c T (0,0)):=(hgr.block _ hlt hne).trans (((ba1 wx o).block _ (lt_of_heap hX)).trans hX)
 have hst:=grn_setU w11 r3 j v'
 have hg11:wB.grownBy w11 (some r3):=by
  have h1:=hG.trans (World.grownBy_alloc wx o (some r3))
  exact ⟨hgr.os.trans h1.os,hgr.tape.trans h1.tape,hgr.output.trans h1.output,Nat.le_trans h1.size hgr.size,fun b hb hn=>(hgr.block b (Nat.lt_of_lt_of_le hb h1.size) (fun e=>by have:=hrow b e.symm;omega)).trans (h1.block b hb hn)⟩
 exact ⟨⟨by simp [World.cell?,hX11,hj],by simp [World.frozen?,hX11]⟩,set_blkU hX11 v',hst,hg11.trans hst⟩
theorem rowU_box {α:Type} {T TU:TypeId} {k:Nat} {cells:α → List Value} {Ok:(Nat → Prop) → World → α → Prop} (hk:KeepOkU Ok) {wB wx w11:World} {o:Obj} {r3 j:Nat} {c:Array Value} {v0:Value} {i g cap:Nat} {Qn:List α} {q:α}
 (hr3:r3 < wB.heap.size) (hR:RowU T k cells Ok wB.heap.size wx v0 Qn) (hq:Ok (OffU wB.heap.size wx v0) wx q) (hi:Qn.length = i) (hX:wx.heap[r3]? = some (.cells c TU (0,0))) (hj:c[j]? = some v0) (hG:wB.grownBy wx (some r3))
 (hown:w11.ownsRow wB.heap.size T k (.slice (some ⟨g,0,none⟩) (i + 1) cap) (i + 1) (Qn.flatMap cells ++ cells q)) (hgr:(wx.alloc o).grownBy w11 v0.ownBlock) (hg:v0.ownBlock = some g ∨ g = wx.heap.size + 1) :
 (w11.cell? ⟨r3,j,none⟩ = some v0 ∧ w11.frozen? ⟨r3,j,none⟩ = false) ∧ RowU T k cells Ok wB.heap.size (w11.setCell ⟨r3,j,none⟩ (.slice (some ⟨g,0,none⟩) (i + 1) cap)) (.slice (some ⟨g,0,none⟩) (i + 1) cap) (Qn ++ [q]) ∧
   (w11.setCell ⟨r3,j,none⟩ (.slice (some ⟨g,0,none⟩) (i + 1) cap)).heap[r3]? = some (.cells (c.setIfInBounds j (.slice (some ⟨g,0,none⟩) (i + 1) cap)) TU (0,0)) ∧ wB.grownBy (w11.setCell ⟨r3,j,none⟩ (.slice (some ⟨g,0,none⟩) (i + 1) cap)) (some r3):=by
 have ga:=World.grownBy_alloc wx o none
 have hR10:=hR.kept hk ga (fun r e=>by cases e)
 have hq10:=hk _ _ _ _ _ hq (keep_offU ga (fun r e=>by cases e))
 have hrow:=hR10.step hk hq10 hi hown hgr (by rcases hg with h | h;exact .inl h;exact .inr (by rw [h];simp))
 obtain ⟨h1,h2,h3,h4⟩:=box_stepU hr3 hX hj hG (fun b e=>(hR.1.lt b e).1) hgr (.slice (some ⟨g,0,none⟩) (i + 1) cap)
 exact ⟨h1,hrow.kept hk h3 (fun r e=>by cases e;exact hr3),h2,h4⟩
theorem fnsC_box {TU:TypeId} {wB wx w11:World} {o:Obj} {r3 j:Nat} {c:Array Value} {v0:Value} {i g cap:Nat} {Qn:List (FnU × Value × Value)} {q:FnU × Value × Value}
 (hr3:r3 < wB.heap.size) (hR:FnsC wB.heap.size wx v0 Qn) (hq:FnC wB.heap.size wx q) (hv:∀ k,BlkU q k → v0.ownBlock ≠ some k) (hn:∀ x ∈ Qn,ApartU x q) (hi:Qn.length = i) (hX:wx.heap[r3]? = some (.cells c TU (0,0))) (hj:c[j]? = some v0) (hG:wB.grownBy wx (some r3))
 (hown:w11.ownsRow wB.heap.size 77 5 (.slice (some ⟨g,0,none⟩) (i + 1) cap) (i + 1) (Qn.flatMap fnUCells ++ fnUCells q)) (hgr:(wx.alloc o).grownBy w11 v0.ownBlock) (hg:v0.ownBlock = some g ∨ g = wx.heap.size + 1) :
 (w11.cell? ⟨r3,j,none⟩ = some v0 ∧ w11.frozen? ⟨r3,j,none⟩ = false) ∧ FnsC wB.heap.size (w11.setCell ⟨r3,j,none⟩ (.slice (some ⟨g,0,none⟩) (i + 1) cap)) (.slice (some ⟨g,0,none⟩) (i + 1) cap) (Qn ++ [q]) ∧
   (w11.setCell ⟨r3,j,none⟩ (.slice (some ⟨g,0,none⟩) (i + 1) cap)).heap[r3]? = some (.cells (c.setIfInBounds j (.slice (some ⟨g,0,none⟩) (i + 1) cap)) TU (0,0)) ∧ wB.grownBy (w11.setCell ⟨r3,j,none⟩ (.slice (some ⟨g,0,none⟩) (i + 1) cap)) (some r3):=by
 have ga:=World.grownBy_alloc wx o none
 have hR10:=hR.kept ga (fun r e=>by cases e)
 have hq10:=hq.kept ga (fun r e=>by cases e)
 have hrow:=hR10.step hq10 hv hn hi hown hgr (by rcases hg with h | h;exact .inl h;exact .inr (by rw [h];simp))
 obtain ⟨h1,h2,h3,h4⟩:=box_stepU hr3 hX hj hG (fun b e=>(hR.1.lt b e).1) hgr (.slice (some ⟨g,0,none⟩) (i + 1) cap)
 exact ⟨h1,hrow.kept h3 (fun r e=>by cases e;exact hr3),h2,h4⟩
theorem flat_me:∀ ms:List (ByteArray × ByteArray),flat2 (pairM ms) = ms.flatMap meCells
 | []=>rfl
 | m :: ms=>by
   have:=flat_me ms
   simp only [pairM,List.map_cons,flat2,List.flatMap_cons,meCells] at *
   rw [this]
   rfl
theorem srs_next {wB wr w3 w5:World} {o:Obj} {r3 i g cap:Nat} {c:Array Value} {v0 v1:Value} {Qn:List (Sr × Value)} {x:Sr} {TU:TypeId} (hr3:r3 < wB.heap.size) (hR:SrsRowU wB.heap.size wr v0 Qn) (hi:Qn.length = i) (hX:wr.heap[r3]? = some (.cells c TU (0,0))) (hj:c[0]? = some v0) (hG:wB.grownBy wr (some r3)) (hnm:x.name.size ≤ maxLen) (hz:x.mems.length * 32 ≤ 140737488351232)
 (h3:Below wr.heap.size wr w3) (hown1:w3.ownsRow wr.heap.size 140 2 v1 x.mems.length (flat2 (pairM x.mems)))
 (hown:w5.ownsRow wB.heap.size 114 2 (.slice (some ⟨g,0,none⟩) (i + 1) cap) (i + 1) (Qn.flatMap srCellsU ++ [.string x.name,v1])) (hgr:(w3.alloc o).grownBy w5 v0.ownBlock) (hg:v0.ownBlock = some g ∨ g = w3.heap.size + 1) :
 (w5.cell? ⟨r3,0,none⟩ = some v0 ∧ w5.frozen? ⟨r3,0,none⟩ = false) ∧ SrsRowU wB.heap.size (w5.setCell ⟨r3,0,none⟩ (.slice (some ⟨g,0,none⟩) (i + 1) cap)) (.slice (some ⟨g,0,none⟩) (i + 1) cap) (Qn ++ [(x,v1)]) ∧
   (w5.setCell ⟨r3,0,none⟩ (.slice (some ⟨g,0,none⟩) (i + 1) cap)).heap[r3]? = some (.cells (c.setIfInBounds 0 (.slice (some ⟨g,0,none⟩) (i + 1) cap)) TU (0,0)) ∧ wB.grownBy (w5.setCell ⟨r3,0,none⟩ (.slice (some ⟨g,0,none⟩) (i + 1) cap)) (some r3):=by
 rw [flat_me] at hown1
 obtain ⟨a,cap1,e,hc1,hc2,hs,hn⟩:=own_slU me_lenU hown1 rfl
 have hBr:=hG.size
 refine rowU_box srP_keep hr3 (hR.kept srP_keep (grn_blwU none h3) (fun r e=>by cases e)) (q:=(x,v1)) ⟨hnm,a,cap1,e,⟨hz,hc1,hc2,hn⟩,hs.keep (fun b hb=>⟨rfl,by have:=hb.2.1;omega,hb.2.2,fun e=>by have:=(hR.1.lt b e).2;have:=hb.2.1;omega⟩)⟩ hi ((h3.block _ (lt_of_heap hX)).trans hX) hj (hG.trans (grn_blwU (some r3) h3)) hown hgr hg
theorem trs_push {w5 wr w6 w11:World} {o:Obj} {k g cap:Nat} {v7 v6:Value} {T:List Nd} {Qt:List (List Nd × Value)} {at_:Option Addr} {ct:Nat} (hB:w5.heap.size ≤ wr.heap.size) (hR:TrsRowU w5.heap.size wr v7 Qt) (hot:SlK 64 at_ T.length ct) (hvt:∀ x ∈ T,NdOk x) (hk:Qt.length = k) (hown6:NdRow w6 wr.heap.size v6 T) (hb6:Below wr.heap.size wr w6)
 (hown:w11.ownsRow w5.heap.size 23 1 (.slice (some ⟨g,0,none⟩) (k + 1) cap) (k + 1) (Qt.flatMap trCells ++ [v6])) (hgr:(w6.alloc o).grownBy w11 v7.ownBlock) (hg:v7.ownBlock = some g ∨ g = (w6.alloc o).heap.size):TrsRowU w5.heap.size w11 (.slice (some ⟨g,0,none⟩) (k + 1) cap) (Qt ++ [(T,v6)]):=by
 have hb:=hb6.trans ((ba1 w6 o).mono hb6.size)
 have hR2:=hR.kept trP_keep (grn_blwU none hb) (fun r e=>by cases e)
 obtain ⟨a,c,e,hc1,hc2,hs,hn⟩:=own_slU nd_len hown6 rfl
 have hq:TrPU (OffU w5.heap.size (w6.alloc o) v7) (w6.alloc o) (T,v6):=by
  refine ⟨a,c,e,⟨hot.1,hc1,hc2,hn⟩,hs.keep (fun b h=>⟨(ba1 w6 o).block b h.2.2,?_,?_,?_⟩),hvt⟩
  ·have:=h.2.1
   omega
  ·have:=(ba1 w6 o).size;have:=h.2.2;omega
  ·intro e
   have:=(hR.1.lt b e).2
   have:=h.2.1
   omega
 exact hR2.step trP_keep hq hk hown hgr hg
theorem glU_oneU (q:GlU × Value) (h:∃ a n c,q.2 = .slice a n c):∀ u ∈ glUCells q,u.oneCell' = true:=fun u hu=>by
 obtain ⟨a,n,c,e⟩:=h
 simp only [glUCells,e,List.mem_cons,List.not_mem_nil,or_false] at hu
 rcases hu with rfl | rfl | rfl | rfl | rfl <;> rfl
theorem gl_set {wo w5 wr:World} {B:Nat} {v1 v7 vo:Value} {ga:Int} {gn gt:ByteArray} {gv:Bool} {L:List (List Nd)} (hvr:VrOk ⟨gn,gt,gv⟩) (hat:i64In ga) (hX:wr.heap[wo.heap.size]? = some (.cells #[.int .i64 ga,.string gn,.string gt,.bool gv,vo] 118 (0,0))) (hb:Below wo.heap.size wo wr)
 (hz5:wo.heap.size + 1 ≤ w5.heap.size) (_hz:w5.heap.size ≤ wr.heap.size) (hT:TrsP (fun b=>w5.heap.size ≤ b ∧ b < wr.heap.size) wr v7 L) (hv1:∀ b,v1.ownBlock = some b → b < wo.heap.size) (hB:B ≤ wo.heap.size) :
 (wr.setCell ⟨wo.heap.size,4,none⟩ v7).heap[wo.heap.size]? = some (.cells #[.int .i64 ga,.string gn,.string gt,.bool gv,v7] 118 (0,0)) ∧ Below wo.heap.size wo (wr.setCell ⟨wo.heap.size,4,none⟩ v7) ∧ GlPU (OffU B (wr.setCell ⟨wo.heap.size,4,none⟩ v7) v1) (wr.setCell ⟨wo.heap.size,4,none⟩ v7) (⟨ga,⟨gn,gt,gv⟩,L⟩,v7):=by
 refine ⟨by simpa using set_blkU (i:=4) hX v7,hb.setCell (Nat.le_refl _) _,hvr,hat,hT.keep (fun b h=>⟨Below.heap_setCell _ _ _ _ (show b ≠ wo.heap.size by have:=h.1;omega),by have:=h.1;omega,by have:=h.2;simpa using this,fun e=>by have:=hv1 b e;have:=h.1;omega⟩)⟩
theorem par_set {wo w5 W:World} {fi:FnU} {vo vb v8:Value} (hX:w5.heap[wo.heap.size]? = some (.cells #[.int .i64 fi.at_,.string fi.name,.string fi.type,vo,vb] 77 (0,0))) (hb5:Below wo.heap.size wo w5) (hlt:wo.heap.size < w5.heap.size) (hb:Below w5.heap.size w5 W)
 (hown:W.ownsRow w5.heap.size 116 3 v8 fi.params.length (fi.params.flatMap vrCells)) :
 (W.setCell ⟨wo.heap.size,3,none⟩ v8).heap[wo.heap.size]? = some (.cells #[.int .i64 fi.at_,.string fi.name,.string fi.type,v8,vb] 77 (0,0)) ∧ (W.setCell ⟨wo.heap.size,3,none⟩ v8).ownsRow w5.heap.size 116 3 v8 fi.params.length (fi.params.flatMap vrCells) ∧ Below wo.heap.size wo (W.setCell ⟨wo.heap.size,3,none⟩ v8) ∧ W.cell? ⟨wo.heap.size,3,none⟩ = some vo ∧ W.frozen? ⟨wo.heap.size,3,none⟩ = false:=by
 have hXW:=(hb.block _ hlt).trans hX
 refine ⟨by simpa using set_blkU (i:=3) hXW v8,own_keptU hown (grn_setU W wo.heap.size 3 v8) (fun r e hv=>by cases e;have:=(hown.lt _ hv).1;omega),(hb5.trans (hb.mono hb5.size)).setCell (Nat.le_refl _) _,by simp [World.cell?,hXW],by simp [World.frozen?,hXW]⟩
theorem fn_new {B:Nat} {wF wo w5 wX w8 w0:World} {fi:FnU} {vp vb vp' vo vb':Value} (hf:IsFnU B w0 fi vp vb) (hop:wX.ownsRow w5.heap.size 116 3 vp' fi.params.length (fi.params.flatMap vrCells)) (hbX:Below wo.heap.size wo wX) (hX:wX.heap[wo.heap.size]? = some (.cells #[.int .i64 fi.at_,.string fi.name,.string fi.type,vp',vo] 77 (0,0)))
 (hlt:wo.heap.size < w5.heap.size) (hb8:Below wX.heap.size wX w8) (hown8:NdRow w8 wX.heap.size vb' fi.body) (hB:wF.heap.size ≤ wo.heap.size) :
 (w8.setCell ⟨wo.heap.size,4,none⟩ vb').heap[wo.heap.size]? = some (.cells #[.int .i64 fi.at_,.string fi.name,.string fi.type,vp',vb'] 77 (0,0)) ∧ Below wo.heap.size wo (w8.setCell ⟨wo.heap.size,4,none⟩ vb') ∧ FnC wF.heap.size (w8.setCell ⟨wo.heap.size,4,none⟩ vb') (fi,vp',vb') ∧ (∀ k,BlkU (fi,vp',vb') k → wo.heap.size ≤ k) ∧ w8.cell? ⟨wo.heap.size,4,none⟩ = some vo ∧ w8.frozen? ⟨wo.heap.size,4,none⟩ = false:=by
 obtain ⟨ap,cp,_,h1,_,h2⟩:=hf.params
 obtain ⟨ab,cb,_,h3,_,h4⟩:=hf.body
 have hXl:=lt_of_heap hX
 have hX8:=(hb8.block _ hXl).trans hX
 have hg:=grn_setU w8 wo.heap.size 4 vb'
 have hp:∀ k,vp'.ownBlock = some k → w5.heap.size ≤ k ∧ k < wX.heap.size:=fun k hk=>hop.lt k hk
 have hb:∀ k,vb'.ownBlock = some k → wX.heap.size ≤ k:=fun k hk=>(hown8.lt k hk).1
 have hop8:=own_keptU (hop.belowed hb8) hg (fun r e hv=>by cases e;have:=(hp _ hv).1;omega)
 have hob8:=own_keptU hown8 hg (fun r e hv=>by cases e;have:=hb _ hv;omega)
 refine ⟨by simpa using set_blkU (i:=4) hX8 vb',(hbX.trans (hb8.mono hbX.size)).setCell (Nat.le_refl _) _,⟨hf.name,hf.type,hf.at_,h1.1,h2,h3.1,h4,own_move hop8 (by omega) (fun _ _=>rfl),own_move hob8 (by omega) (fun _ _=>rfl),fun k hk hk'=>?_⟩,fun k hk=>?_,by simp [World.cell?,hX8],by simp [World.frozen?,hX8]⟩
 ·have:=(hp k hk).2
  have:=hb k hk'
  omega
 ·rcases hk with hk | hk
  ·have:=(hp k hk).1;omega
  ·have:=hb k hk;omega
theorem fnU_oneU (q:FnU × Value × Value) (h1:∃ a n c,q.2.1 = .slice a n c) (h2:∃ a n c,q.2.2 = .slice a n c):∀ u ∈ fnUCells q,u.oneCell' = true:=fun u hu=>by
 obtain ⟨a,n,c,e⟩:=h1
 obtain ⟨a2,n2,c2,e2⟩:=h2
 simp only [fnUCells,e,e2,List.mem_cons,List.not_mem_nil,or_false] at hu
 rcases hu with rfl | rfl | rfl | rfl | rfl <;> rfl
theorem unC_end {w w3 wG wF wr:World} {u:UnU} {r3:Nat} {v0 v1 v2:Value} {Qf:List (FnU × Value × Value)} (hB:Below w.heap.size w wr) (hX1:wr.heap[w.heap.size + 1]? = some (.cells #[.slice none 0 0,.slice none 0 0,.slice none 0 0] 65 (0,0))) (h3:w.heap.size + 2 ≤ w3.heap.size) (hr3:r3 < w3.heap.size)
 (hS:StsP (fun b=>w3.heap.size ≤ b ∧ b < wG.heap.size) wF v0 u.structs) (hGl:GlsP (fun b=>wG.heap.size ≤ b ∧ b < wF.heap.size) wF v1 u.globals) (h3G:w3.heap.size ≤ wG.heap.size) (hGF:wG.heap.size ≤ wF.heap.size) (hG:wF.grownBy wr (some r3)) (hF:FnsC wF.heap.size wr v2 Qf) (hQ:Qf.map Prod.fst = u.funcs) (hz:u.funcs.length * 88 ≤ 140737488351232) :
 (((wr.setCell ⟨w.heap.size + 1,0,none⟩ v0).setCell ⟨w.heap.size + 1,1,none⟩ v1).setCell ⟨w.heap.size + 1,2,none⟩ v2).heap[w.heap.size + 1]? = some (.cells #[v0,v1,v2] 65 (0,0)) ∧
 UnC w.heap.size (((wr.setCell ⟨w.heap.size + 1,0,none⟩ v0).setCell ⟨w.heap.size + 1,1,none⟩ v1).setCell ⟨w.heap.size + 1,2,none⟩ v2) u v0 v1 v2 wF.heap.size Qf ∧
 Below w.heap.size w (((wr.setCell ⟨w.heap.size + 1,0,none⟩ v0).setCell ⟨w.heap.size + 1,1,none⟩ v1).setCell ⟨w.heap.size + 1,2,none⟩ v2):=by
 have hg:wr.grownBy (((wr.setCell ⟨w.heap.size + 1,0,none⟩ v0).setCell ⟨w.heap.size + 1,1,none⟩ v1).setCell ⟨w.heap.size + 1,2,none⟩ v2) (some (w.heap.size + 1)):=((grn_setU _ _ _ _).trans (grn_setU _ _ _ _)).trans (grn_setU _ _ _ _)
 have hx:(((wr.setCell ⟨w.heap.size + 1,0,none⟩ v0).setCell ⟨w.heap.size + 1,1,none⟩ v1).setCell ⟨w.heap.size + 1,2,none⟩ v2).heap[w.heap.size + 1]? = some (.cells #[v0,v1,v2] 65 (0,0)):=by
  have:=set_blkU (i:=2) (set_blkU (i:=1) (set_blkU (i:=0) hX1 v0) v1) v2
  simpa using this
 have hb:=((hB.setCell (p:=⟨w.heap.size + 1,0,none⟩) (Nat.le_succ _) v0).setCell (p:=⟨w.heap.size + 1,1,none⟩) (Nat.le_succ _) v1).setCell (p:=⟨w.heap.size + 1,2,none⟩) (Nat.le_succ _) v2
 refine ⟨hx,?_,hb⟩
 generalize World.setCell _ _ _ = W at *
 have hsz:=hG.size
 have key:∀ b,w3.heap.size ≤ b → b < wF.heap.size → W.heap[b]? = wF.heap[b]?:=fun b h1 h2=>by
  rw [hg.block b (by omega) (fun e=>by have:=Option.some.inj e;omega),hG.block b h2 (fun e=>by have:=Option.some.inj e;omega)]
 exact ⟨hS.keep (fun b h=>⟨key b h.1 (by have:=h.2;omega),by have:=h.1;omega,by have:=h.2;omega⟩),hGl.keep (fun b h=>⟨key b (by have:=h.1;omega) h.2,by have:=h.1;omega,h.2⟩),hF.kept hg (fun r e=>by cases e;omega),hQ,hz,by omega,Nat.le_trans hsz hg.size⟩
end Go.Proofs.YtkokdafkjjcgoaaGreatDoor
