/- An argument that is a slice, opened by its elements. -/
import Derived.Deep.Slices
import Derived.ProofKit
import Derived.Test.YtkokdafkjjcgoaaGreatDoorMg9
import Derived.SizedLaws
namespace Go.Proofs.YtkokdafkjjcgoaaGreatDoor
open Go.ChangeShapes Go.WideShapes Go.ChangeAt Go.RowKit Go.Deep
def IsSl {α:Type} (k:Nat) (cells:α → List Value) (B:Nat) (w:World) (a:Option Addr) (L:List α):Prop:=
 L ≠ [] → ∃ b off,a = some ⟨b,off,none⟩ ∧ b < B ∧ ∀ (i:Nat) t,L[i]? = some t → ∀ (j:Nat) u,(cells t)[j]? = some u → w.cell? ⟨b,off + i * k + j,none⟩ = some u
theorem IsSl.below {α:Type} {k:Nat} {cells:α → List Value} {B B':Nat} {w w':World} {a:Option Addr} {L:List α} (h:IsSl k cells B w a L) (hb:Below B' w w') (hB:B ≤ B'):IsSl k cells B w' a L:=fun hn=>by
 obtain ⟨b,off,rfl,hlt,hc⟩:=h hn
 exact ⟨b,off,rfl,hlt,fun i t ht j u hu=>by rw [hb.cell (show b < B' by omega)];exact hc i t ht j u hu⟩
theorem IsSl.mono {α:Type} {k:Nat} {cells:α → List Value} {B B':Nat} {w:World} {a:Option Addr} {L:List α} (h:IsSl k cells B w a L) (hB:B ≤ B'):IsSl k cells B' w a L:=fun hn=>by
 obtain ⟨b,off,rfl,hlt,hc⟩:=h hn
 exact ⟨b,off,rfl,by omega,hc⟩
theorem isSl_nil {α:Type} {k:Nat} {cells:α → List Value} {B:Nat} {w:World} {a:Option Addr}:IsSl k cells B w a []:=fun h=>absurd rfl h
section
variable {H:Type} {enc:TypeId × Value → H} {w:World} {base:Nat} {spare:Nat → Bool} {held:Bool}
theorem open_list {t e:TypeId} {k:Nat} (hk0:0 < k) (ht:Tryz.prog.underlying t = some (.slice e)) (hk:Tryz.prog.cellsOf e = k) {α:Type} (cells:α → List Value) (data:α → DataW H) (Ok:α → Prop)
 (hel:∀ {n:Nat} {cs:List Value} {D:DataW H} {pl:List MemPlace},DataW.trod enc Tryz.prog w base spare held n e cs = some (D,pl) → ∃ a,cs = cells a ∧ D = data a ∧ Ok a)
 {fuel:Nat} {v:Value} {x:DataW H × List MemPlace} (h:DataW.trod enc Tryz.prog w base spare held fuel t [v] = some x) :
 ∃ (a:Option Addr) (cap:Nat) (L:List α),v = .slice a L.length cap ∧ L.length ≤ cap ∧ cap ≤ maxLen ∧ (a = none → L = [] ∧ cap = 0) ∧ ((x.1 = .nil ∧ L = []) ∨ ∃ rest,x.1 = .slice (L.map data) rest) ∧ IsSl k cells w.heap.size w a L ∧ ∀ t ∈ L,Ok t:=by
 rcases open_slice ht h with ⟨hv,hx⟩ | ⟨a,len,cap,m,n,D,Pl,hv,_,hl,hcm,hm,hx,hi⟩
 ·exact ⟨none,0,[],by simpa using hv,Nat.zero_le _,Nat.zero_le _,fun _=>⟨rfl,rfl⟩,.inl ⟨by rw [hx],rfl⟩,isSl_nil,fun t ht=>by cases ht⟩
 ·have hlm:len ≤ m:=by rw [hm];split <;> omega
  have hD:∀ i,i < len → ∃ t:α,D i = data t ∧ Ok t ∧ (cells t).length = k ∧ ∀ j,j < k → w.cell? ((a.add (i * k)).add j) = (cells t)[j]?:=fun i hlt=>by
   obtain ⟨cs',hc,ht⟩:=hi i (by omega)
   obtain ⟨t,rfl,hd,hok⟩:=hel ht
   rw [hk] at hc
   exact ⟨t,hd,hok,(World.cells?_some hc).2⟩
  have key:∀ q,q ≤ len → ∃ L:List α,L.length = q ∧ (List.range q).map D = L.map data ∧ ∀ (i:Nat) t,L[i]? = some t → Ok t ∧ (cells t).length = k ∧ ∀ j,j < k → w.cell? ((a.add (i * k)).add j) = (cells t)[j]?:=by
   intro q
   induction q with
   | zero=>intro _;exact ⟨[],rfl,rfl,fun i t hi=>by simp at hi⟩
   | succ q ih=>
     intro hq
     obtain ⟨L,hL,hm',hc⟩:=ih (by omega)
     obtain ⟨t,hd,hok,hcell⟩:=hD q (by omega)
     refine ⟨L ++ [t],by simp [hL],by rw [List.range_succ,List.map_append,List.map_append,hm'];simp [hd],fun i u hu=>?_⟩
     rcases Nat.lt_or_ge i L.length with h' | h'
     ·rw [List.getElem?_append_left h'] at hu;exact hc i u hu
     ·rw [List.getElem?_append_right h'] at hu
      have hi0:i - L.length = 0:=by
       rcases Nat.eq_zero_or_pos (i - L.length) with h0 | h0
       ·exact h0
       ·rw [List.getElem?_eq_none (by simp;omega)] at hu;cases hu
      rw [hi0] at hu
      obtain rfl:=Option.some.inj hu
      obtain rfl:i = q:=by omega
      exact ⟨hok,hcell⟩
  obtain ⟨L,hL,hm',hc⟩:=key len (Nat.le_refl _)
  subst hL
  refine ⟨some a,cap,L,by simpa using hv,hl,hcm,(fun h=>by cases h),.inr ⟨_,by rw [hx,hm']⟩,fun hne=>?_,fun t ht=>?_⟩
  ·obtain ⟨b,off,sp⟩:=a
   have h0:0 < L.length:=List.length_pos_iff.2 hne
   have hsp:sp = none:=by
    obtain ⟨_,hlk,hat⟩:=hc 0 _ (List.getElem?_eq_getElem h0)
    have h:=hat 0 hk0
    rw [List.getElem?_eq_getElem (by omega)] at h
    simp only [Nat.zero_mul,Addr.add,if_true,World.cell?] at h
    cases sp with
    | none=>rfl
    | some z=>
      exfalso
      simp at h
      split at h <;> simp at h
   subst hsp
   have hadd:∀ i j,(((⟨b,off,none⟩:Addr).add i).add j) = ⟨b,off + i + j,none⟩:=by
    intro i j
    unfold Addr.add
    split <;> split <;> simp_all
   have hall:∀ (i:Nat) t,L[i]? = some t → ∀ (j:Nat) u,(cells t)[j]? = some u → w.cell? ⟨b,off + i * k + j,none⟩ = some u:=fun i t ht j u hu=>by
    obtain ⟨_,hlk,hat⟩:=hc i t ht
    have hj:j < k:=by obtain ⟨h1,_⟩:=List.getElem?_eq_some_iff.1 hu;omega
    have:=hat j hj
    rw [hadd] at this
    rw [this,hu]
   refine ⟨b,off,rfl,?_,hall⟩
   obtain ⟨_,hlk,_⟩:=hc 0 _ (List.getElem?_eq_getElem h0)
   exact World.block_lt_of_cell? w _ (hall 0 _ (List.getElem?_eq_getElem h0) 0 _ (List.getElem?_eq_getElem (by omega)))
  ·obtain ⟨i,hi,rfl⟩:=List.getElem_of_mem ht
   exact (hc i _ (List.getElem?_eq_getElem hi)).1
end
def ndCells (x:Nd):List Value:=[.int .i64 x.kind,.int .i64 x.n,.int .i64 x.at_,.int .i64 x.int,.string x.text,.string x.type]
def ndV (x:Nd):Value:=.agg #[.int .i64 x.kind,.int .i64 x.n,.int .i64 x.at_,.int .i64 x.int,.string x.text,.string x.type]
abbrev ndObj (x:Nd):Obj:=.cells #[.int .i64 x.kind,.int .i64 x.n,.int .i64 x.at_,.int .i64 x.int,.string x.text,.string x.type] 36
theorem six_block {w:World} {b:Nat} {a0 a1 a2 a3 a4 a5:Value} {T:TypeId} (h:w.heap[b]? = some (.cells #[a0,a1,a2,a3,a4,a5] T (0,0))) :
 (w.cell? ⟨b,0,none⟩ = some a0 ∧ w.cell? ⟨b,1,none⟩ = some a1 ∧ w.cell? ⟨b,2,none⟩ = some a2 ∧ w.cell? ⟨b,3,none⟩ = some a3 ∧ w.cell? ⟨b,4,none⟩ = some a4 ∧ w.cell? ⟨b,5,none⟩ = some a5) ∧ ∀ j,w.frozen? ⟨b,j,none⟩ = false:=by
 refine ⟨⟨?_,?_,?_,?_,?_,?_⟩,fun j=>?_⟩ <;> simp [World.cell?,World.frozen?,h]
abbrev IsNds (B:Nat) (w:World) (a:Option Addr) (t:List Nd):Prop:=IsSl 6 ndCells B w a t
theorem nds_at {B:Nat} {w:World} {a:Option Addr} {t:List Nd} (h:IsNds B w a t) {i:Nat} (hi:i < t.length):∃ b off,a = some ⟨b,off,none⟩ ∧ b < B ∧
 w.cell? ⟨b,off + i * 6,none⟩ = some (.int .i64 t[i].kind) ∧ w.cell? ⟨b,off + i * 6 + 1,none⟩ = some (.int .i64 t[i].n) ∧ w.cell? ⟨b,off + i * 6 + 2,none⟩ = some (.int .i64 t[i].at_) ∧ w.cell? ⟨b,off + i * 6 + 3,none⟩ = some (.int .i64 t[i].int) ∧ w.cell? ⟨b,off + i * 6 + 4,none⟩ = some (.string t[i].text) ∧ w.cell? ⟨b,off + i * 6 + 5,none⟩ = some (.string t[i].type):=by
 obtain ⟨b,off,e,hlt,hc⟩:=h (fun e=>by rw [e] at hi;simp at hi)
 have hx:=List.getElem?_eq_getElem hi
 exact ⟨b,off,e,hlt,hc i _ hx 0 _ rfl,hc i _ hx 1 _ rfl,hc i _ hx 2 _ rfl,hc i _ hx 3 _ rfl,hc i _ hx 4 _ rfl,hc i _ hx 5 _ rfl⟩
section
variable {H:Type} {enc:TypeId × Value → H} {w:World} {base:Nat} {spare:Nat → Bool} {held:Bool}
def ndData (x:Nd):DataW H:=.agg [.lit (.int .i64 x.kind),.lit (.int .i64 x.n),.lit (.int .i64 x.at_),.lit (.int .i64 x.int),.lit (.string x.text.data.toList),.lit (.string x.type.data.toList)]
theorem cellsNd:Tryz.prog.cellsOf 36 = 6:=by kernel_rfl
theorem cellsI9:Tryz.prog.cellsOf 3 = 1:=by kernel_rfl
theorem cellsS9:Tryz.prog.cellsOf 9 = 1:=by kernel_rfl
theorem cellsT9:Tryz.prog.cellsOf 34 = 1:=by kernel_rfl
def i64In (n:Int):Prop:=-9223372036854775808 ≤ n ∧ n ≤ 9223372036854775807
def NdOk (x:Nd):Prop:=i64In x.kind ∧ i64In x.n ∧ i64In x.at_ ∧ i64In x.int
set_option maxRecDepth 100000 in
theorem open_nd {n:Nat} {cs:List Value} {D:DataW H} {pl:List MemPlace} (h:DataW.trod enc Tryz.prog w base spare held n 36 cs = some (D,pl)) :
 ∃ x:Nd,cs = ndCells x ∧ D = ndData x ∧ NdOk x:=by
 obtain ⟨xs,n',_,hx,hlen,hxs,hf⟩:=DataW.trod_struct Tryz.underlying36 h
 rw [cellsNd] at hlen
 match cs,hlen with
 | [c0,c1,c2,c3,c4,c5],_=>
   match xs,hxs with
   | [y0,y1,y2,y3,y4,y5],_=>
     have f0:=hf 0 _ rfl
     have f1:=hf 1 _ rfl
     have f2:=hf 2 _ rfl
     have f3:=hf 3 _ rfl
     have f4:=hf 4 _ rfl
     have f5:=hf 5 _ rfl
     simp [cellsI9] at f0 f1 f2 f3
     simp [cellsS9] at f4
     simp [cellsT9] at f5
     obtain ⟨a0,e0,r0,w0⟩:=DataW.trod_int Tryz.underlying3 f0
     obtain ⟨a1,e1,r1,w1⟩:=DataW.trod_int Tryz.underlying3 f1
     obtain ⟨a2,e2,r2,w2⟩:=DataW.trod_int Tryz.underlying3 f2
     obtain ⟨a3,e3,r3,w3⟩:=DataW.trod_int Tryz.underlying3 f3
     obtain ⟨a4,e4,r4,_⟩:=DataW.trod_string Tryz.underlying9 f4
     obtain ⟨a5,e5,r5,_⟩:=DataW.trod_string Tryz.underlying34 f5
     simp only [List.cons.injEq,and_true] at e0 e1 e2 e3 e4 e5
     subst e0 e1 e2 e3 e4 e5 r0 r1 r2 r3 r4 r5
     exact ⟨⟨a0,a1,a2,a3,a4,a5⟩,rfl,congrArg Prod.fst hx,bounds_i64 w0,bounds_i64 w1,bounds_i64 w2,bounds_i64 w3⟩
theorem open_tree {fuel:Nat} {v:Value} {x:DataW H × List MemPlace} (h:DataW.trod enc Tryz.prog w base spare held fuel 23 [v] = some x) :
 ∃ (a:Option Addr) (cap:Nat) (Q:List Nd),v = .slice a Q.length cap ∧ Q.length ≤ cap ∧ cap ≤ maxLen ∧ (a = none → Q = [] ∧ cap = 0) ∧ ((x.1 = .nil ∧ Q = []) ∨ ∃ rest,x.1 = .slice (Q.map ndData) rest) ∧ IsNds w.heap.size w a Q ∧ ∀ q ∈ Q,NdOk q:=
 open_list (by decide) Tryz.underlying23 cellsNd ndCells ndData NdOk (fun h=>open_nd h) h
end
end Go.Proofs.YtkokdafkjjcgoaaGreatDoor
namespace Go.Proofs.YtkokdafkjjcgoaaGreatDoor
open Go.RowKit
theorem flat_len {α:Type} {k:Nat} {cells:α → List Value} (hk:∀ a,(cells a).length = k):∀ L:List α,(L.flatMap cells).length = L.length * k
 | []=>by simp
 | a :: L=>by rw [List.flatMap_cons,List.length_append,hk,flat_len hk L,List.length_cons,Nat.add_mul];omega
theorem flat_at {α:Type} {k:Nat} {cells:α → List Value} (hk:∀ a,(cells a).length = k):∀ {L:List α} {i j:Nat} {a:α} {u:Value},L[i]? = some a → (cells a)[j]? = some u → (L.flatMap cells)[i * k + j]? = some u
 | [],_,_,_,_,h,_=>by simp at h
 | b :: L,0,j,a,u,h,hu=>by
   obtain rfl:=Option.some.inj h
   have hj:=(List.getElem?_eq_some_iff.1 hu).1
   rw [List.flatMap_cons,Nat.zero_mul,Nat.zero_add,List.getElem?_append_left hj]
   exact hu
 | b :: L,i + 1,j,a,u,h,hu=>by
   rw [List.flatMap_cons,List.getElem?_append_right (by rw [hk,Nat.add_mul];omega),hk,show (i + 1) * k + j - k = i * k + j by rw [Nat.add_mul];omega]
   exact flat_at hk (by simpa using h) hu
theorem flat_inv {α:Type} {k:Nat} {cells:α → List Value} (hk:∀ a,(cells a).length = k):∀ {L:List α} {q:Nat} {u:Value},(L.flatMap cells)[q]? = some u → ∃ (i j:Nat) (a:α),q = i * k + j ∧ L[i]? = some a ∧ (cells a)[j]? = some u
 | [],_,_,h=>by simp at h
 | b :: L,q,u,h=>by
   rw [List.flatMap_cons] at h
   rcases Nat.lt_or_ge q (cells b).length with hlt | hge
   ·rw [List.getElem?_append_left hlt] at h
    exact ⟨0,q,b,by omega,rfl,h⟩
   ·rw [List.getElem?_append_right hge,hk] at h
    obtain ⟨i,j,a,e,h1,h2⟩:=flat_inv hk h
    rw [hk] at hge
    exact ⟨i + 1,j,a,by rw [Nat.add_mul];omega,by simpa using h1,h2⟩
theorem addN (b off j:Nat):(⟨b,off,none⟩:Addr).add j = ⟨b,off + j,none⟩:=by unfold Addr.add;split <;> simp_all
theorem sl_news {α:Type} {k:Nat} {cells:α → List Value} (hk:∀ a,(cells a).length = k) {B:Nat} {w:World} {ad:Addr} {L:List α} (h:IsSl k cells B w (some ad) L):∀ (q:Nat) u,(L.flatMap cells)[q]? = some u → w.cell? (ad.add q) = some u:=fun q u hu=>by
 obtain ⟨i,j,a,rfl,ha,hj⟩:=flat_inv hk hu
 obtain ⟨b,off,e,_,hc⟩:=h (fun e=>by rw [e] at ha;simp at ha)
 obtain rfl:=Option.some.inj e
 rw [addN,← Nat.add_assoc]
 exact hc i a ha j u hj
theorem own_sl {α:Type} {k:Nat} {cells:α → List Value} (hk:∀ a,(cells a).length = k) {w:World} {base n:Nat} {T:TypeId} {v:Value} {L:List α} (h:w.ownsRow base T k v n (L.flatMap cells)) (hn:n = L.length):∃ a cap,v = .slice a L.length cap ∧ IsSl k cells w.heap.size w a L ∧ (a = none → L = [] ∧ cap = 0):=by
 subst hn
 rcases h.2 with ⟨rfl,h0⟩ | ⟨g,cap,cur,rfl,_,hg,_⟩
 ·have:L = []:=List.eq_nil_of_length_eq_zero h0
  subst this
  exact ⟨none,0,rfl,isSl_nil,fun _=>⟨rfl,rfl⟩⟩
 ·refine ⟨_,cap,rfl,fun _=>⟨g,0,rfl,lt_of_heap hg,fun i a ha j u hu=>?_⟩,fun h=>by cases h⟩
  have:=h.cells (g:=g) rfl _ _ (flat_at hk ha hu)
  rw [addN,← Nat.add_assoc] at this
  exact this
theorem own_cell {α:Type} {k:Nat} {cells:α → List Value} (hk:∀ a,(cells a).length = k) {w:World} {base n g cap:Nat} {T:TypeId} {L:List α} (h:w.ownsRow base T k (.slice (some ⟨g,0,none⟩) n cap) n (L.flatMap cells)) {i j:Nat} {a:α} {u:Value} (ha:L[i]? = some a) (hu:(cells a)[j]? = some u):w.cell? ⟨g,i * k + j,none⟩ = some u:=by
 have:=h.cells (g:=g) rfl _ _ (flat_at hk ha hu)
 rw [addN,Nat.zero_add] at this
 exact this
theorem own_take {w:World} {base n g cap size:Nat} {T:TypeId} {xs:List Value} (h:w.ownsRow base T size (.slice (some ⟨g,0,none⟩) n cap) n xs) {m:Nat} (hm:m ≤ n):w.ownsRow base T size (.slice (some ⟨g,0,none⟩) m cap) m (xs.take (m * size)):=by
 obtain ⟨h1,h2 | ⟨g',cap',cur,e,hb,hg,hnc,hcm,hcs,ht⟩⟩:=h
 ·simp at h2
 ·simp only [Value.slice.injEq,Option.some.injEq,Addr.mk.injEq,and_true,true_and] at e
  obtain ⟨rfl,rfl⟩:=e
  have hle:m * size ≤ n * size:=Nat.mul_le_mul_right size hm
  refine ⟨by rw [List.length_take];omega,.inr ⟨g,cap,cur,rfl,hb,hg,by omega,hcm,hcs,?_⟩⟩
  rw [← ht,List.take_take,Nat.min_eq_left hle]
structure RdAt (w:World) (b:Nat) (s:ByteArray) (k d:Nat):Prop where
 blk:w.heap[b]? = some (.cells #[.string s,.int .i64 (k:Int),.int .i64 (d:Int)] 231 (0,0))
theorem RdAt.cells {w b s k d} (h:RdAt w b s k d):(w.cell? ⟨b,0,none⟩ = some (.string s) ∧ w.cell? ⟨b,1,none⟩ = some (.int .i64 (k:Int)) ∧ w.cell? ⟨b,2,none⟩ = some (.int .i64 (d:Int))) ∧ ∀ j,w.frozen? ⟨b,j,none⟩ = false:=by
 refine ⟨⟨?_,?_,?_⟩,fun j=>?_⟩
 ·simp [World.cell?,h.blk]
 ·simp [World.cell?,h.blk]
 ·simp [World.cell?,h.blk]
 ·simp [World.frozen?,h.blk]
theorem RdAt.drewN {w b s k d} (h:RdAt w b s k d) (n:Nat):RdAt (w.drewN n) b s k d:=⟨h.blk⟩
theorem RdAt.set1 {w b s k d} (h:RdAt w b s k d) (m:Nat):RdAt (w.setCell ⟨b,1,none⟩ (.int .i64 (m:Int))) b s m d:=by
 refine ⟨?_⟩
 simp [World.setCell,Array.getElem?_modify,h.blk]
theorem RdAt.set2 {w b s k d} (h:RdAt w b s k d) (m:Nat):RdAt (w.setCell ⟨b,2,none⟩ (.int .i64 (m:Int))) b s k m:=by
 refine ⟨?_⟩
 simp [World.setCell,Array.getElem?_modify,h.blk]
theorem RdAt.at1 {w b s k d} (h:RdAt w b s k d) {m:Nat} {x:Int} (hx:x = m):RdAt (w.setCell ⟨b,1,none⟩ (.int .i64 x)) b s m d:=by subst hx;exact h.set1 m
theorem RdAt.at2 {w b s k d} (h:RdAt w b s k d) {m:Nat} {x:Int} (hx:x = m):RdAt (w.setCell ⟨b,2,none⟩ (.int .i64 x)) b s k m:=by subst hx;exact h.set2 m
theorem RdAt.below {w w' b s k d} (h:RdAt w b s k d) (hb:Below w.heap.size w w'):RdAt w' b s k d:=⟨by rw [hb.block b (lt_of_heap h.blk)];exact h.blk⟩
theorem RdAt.lt {w b s k d} (h:RdAt w b s k d):b < w.heap.size:=lt_of_heap h.blk
def byteAt (s:ByteArray) (k:Nat):Nat:=if h:k < s.size then s[k].toNat else 0
theorem byteAt_in {s:ByteArray} {k:Nat} (h:k < s.size):byteAt s k = s[k].toNat:=by rw [byteAt,dif_pos h]
theorem byteAt_out {s:ByteArray} {k:Nat} (h:s.size ≤ k):byteAt s k = 0:=by rw [byteAt,dif_neg (by omega)]
set_option maxHeartbeats 1000000 in
theorem next_ok (b k d:Nat) (s:ByteArray) (w:World) (h:RdAt w b s k d) :
 Calls Tryz.prog 215 #[.pointer (some ⟨b,0,none⟩)] w fun e w'=>e = .returned (.int .u8 (byteAt s k:Int)) ∧ ∃ n,w' = w.drewN n:=by
 obtain ⟨⟨c0,c1,c2⟩,hf⟩:=h.cells
 clear h hf
 by_cases hk:k < s.size
 ·have hE:=Hd (byteAt_in hk)
  have t1:decide (k < s.size) = true:=by simpa using hk
  go_enter Tryz.func215,Tryz.ntmps215
  go_wp2_with fail
  go_quiet (fail)
  go_wp2_with fail
  go_quiet (fail)
  go_wp2
  go_ret
  exact ⟨by rw [hE.out];rfl,_,World.drewN_drewN _ _ _⟩
 ·have hE:=Hd (byteAt_out (s:=s) (k:=k) (by omega))
  have t1:decide (k < s.size) = false:=by simpa using hk
  go_enter Tryz.func215,Tryz.ntmps215
  go_wp2_with fail
  go_quiet (fail)
  go_wp2
  go_ret
  exact ⟨by rw [hE.out];rfl,_,rfl⟩
theorem next_is (r:Int) (b k d:Nat) (s:ByteArray) (w:World) (h:RdAt w b s k d) (hr:(byteAt s k:Int) = r) :
 Calls Tryz.prog 215 #[.pointer (some ⟨b,0,none⟩)] w fun e w'=>e = .returned (.int .u8 r) ∧ ∃ n,w' = w.drewN n:=by
 subst hr;exact next_ok b k d s w h
set_option maxHeartbeats 2000000 in
theorem take_yes (c:UInt8) (b k d:Nat) (s:ByteArray) (w:World) (h:RdAt w b s k d) (hk:k < s.size) (hc:s[k] = c) (hs:s.size ≤ 1048576) :
 Calls Tryz.prog 183 #[.pointer (some ⟨b,0,none⟩),.int .u8 (c.toNat:Int)] w fun e w'=>e = .returned (.bool true) ∧ RdAt w' b s (k + 1) d ∧ w.grownBy w' (some b):=by
 have H:=Hd h
 have HN:=Hd (show (byteAt s k:Int) = (c.toNat:Int) by rw [byteAt_in hk,hc])
 obtain ⟨⟨c0,c1,c2⟩,hf⟩:=h.cells
 have f1:=hf 1
 have t1:decide (s.size ≤ k) = false:=by simp;omega
 have t2:decide ((s.size:Int) ≤ k) = false:=by simp;omega
 clear h hc hf
 go_enter Tryz.func183,Tryz.ntmps183
 go_wp2_with fail
 go_quiet ((go_at_call 215;exact Calls.quiet_of (next_is _ _ _ _ _ _ (H.out.drewN _) HN.out)))
 go_wp2
 go_ret
 exact ⟨rfl,by have:=(H.out.drewN nq).set1 (k + 1);exact this,grown_set (grown_drewN (grown_refl _ _) _) _ rfl _⟩
set_option maxHeartbeats 2000000 in
theorem take_no (c:UInt8) (b k d:Nat) (s:ByteArray) (w:World) (h:RdAt w b s k d) (hc0:c.toNat ≠ 0) (hc:∀ h:k < s.size,s[k] ≠ c) :
 Calls Tryz.prog 183 #[.pointer (some ⟨b,0,none⟩),.int .u8 (c.toNat:Int)] w fun e w'=>e = .returned (.bool false) ∧ ∃ n,w' = w.drewN n:=by
 have H:=Hd h
 have t1:((byteAt s k:Int) != (c.toNat:Int)) = true:=by
  rw [bne_iff_ne]
  by_cases hk:k < s.size
  ·rw [byteAt_in hk]
   intro e
   exact hc hk (UInt8.toNat_inj.1 (by omega))
  ·rw [byteAt_out (by omega)]
   intro e
   omega
 generalize hg:(byteAt s k:Int) = x at t1
 have HN:=Hd hg
 clear h hc hg hc0
 go_enter Tryz.func183,Tryz.ntmps183
 go_wp2_with fail
 go_quiet ((go_at_call 215;exact Calls.quiet_of (next_is _ _ _ _ _ _ (H.out.drewN _) HN.out)))
 go_wp2
 go_ret
 exact ⟨rfl,_,rfl⟩
theorem takeY (x:Int) (c:UInt8) (b k d:Nat) (s:ByteArray) (w:World) (hx:x = (c.toNat:Int)) (h:RdAt w b s k d) (hk:k < s.size) (hc:s[k] = c) (hs:s.size ≤ 1048576) :
 Calls Tryz.prog 183 #[.pointer (some ⟨b,0,none⟩),.int .u8 x] w fun e w'=>e = .returned (.bool true) ∧ RdAt w' b s (k + 1) d ∧ w.grownBy w' (some b):=by
 subst hx;exact take_yes c b k d s w h hk hc hs
theorem takeN (x:Int) (c:UInt8) (b k d:Nat) (s:ByteArray) (w:World) (hx:x = (c.toNat:Int)) (h:RdAt w b s k d) (hc0:c.toNat ≠ 0) (hc:∀ h:k < s.size,s[k] ≠ c) :
 Calls Tryz.prog 183 #[.pointer (some ⟨b,0,none⟩),.int .u8 x] w fun e w'=>e = .returned (.bool false) ∧ ∃ n,w' = w.drewN n:=by
 subst hx;exact take_no c b k d s w h hc0 hc
theorem cut_index {c:UInt8} {l u r:List UInt8} (h:cutAt c l = some (u,r)):Lib.indexByte l c = (u.length:Nat):=by
 obtain ⟨rfl,h2⟩:=cutAt_some h
 refine indexByte_at (by simp) fun k hk=>?_
 rw [List.getElem?_append_left hk]
 intro e
 exact h2 (List.mem_of_getElem? e)
theorem cut_index_no {c:UInt8} {l:List UInt8} (h:cutAt c l = none):Lib.indexByte l c = -1:=by
 rw [cutAt_none] at h
 exact indexByte_no fun k e=>h (List.mem_of_getElem? e)
theorem idxc_is (c:UInt8) (o:Int) (s:ByteArray) (k:Nat) (w:World) (ho:Lib.indexByte (sfx s k) c = o) :
 Calls Tryz.prog 188 #[.string (s.extract k s.size),.int .u8 (c.toNat:Int)] w fun e w'=>e = .returned (.int .i64 o) ∧ w' = w:=
 (Tryz.strings_IndexByte _ (c.toNat:Int) w).mono fun _ _ ⟨he,hw⟩=>⟨by rw [he,sfx_extract,← ho];simp,hw⟩
set_option maxHeartbeats 2000000 in
theorem till_yes (c:UInt8) (b k d:Nat) (s:ByteArray) (u r:List UInt8) (w:World) (h:RdAt w b s k d) (hk:k ≤ s.size) (hc:cutAt c (sfx s k) = some (u,r)) (hs:s.size ≤ 1048576) :
 Calls Tryz.prog 216 #[.pointer (some ⟨b,0,none⟩),.int .u8 (c.toNat:Int)] w fun e w'=>e = .returned (.tuple #[.string (s.extract k (k + u.length)),.bool true]) ∧ RdAt w' b s (k + u.length + 1) d ∧ w.grownBy w' (some b):=by
 have H:=Hd h
 have HI:=Hd (cut_index hc)
 have hl:k + u.length + 1 ≤ s.size:=by
  have:=congrArg List.length (cutAt_some hc).1
  rw [sfx_length] at this
  simp at this;omega
 obtain ⟨⟨c0,c1,c2⟩,hf⟩:=h.cells
 have f1:=hf 1
 generalize u.length = m at *
 clear h hc hf
 go_enter Tryz.func216,Tryz.ntmps216
 go_wp2_with fail
 go_quiet ((go_at_call 188;exact Calls.quiet_of_same (idxc_is c _ _ _ _ HI.out)))
 go_wp2_with fail
 go_quiet (fail)
 go_wp2_with fail
 go_ret2
 exact ⟨rfl,(H.out.drewN _).at1 (by omega),grown_set (grown_drewN (grown_refl _ _) _) _ rfl _⟩
set_option maxHeartbeats 2000000 in
theorem till_no (c:UInt8) (b k d:Nat) (s:ByteArray) (w:World) (h:RdAt w b s k d) (hk:k ≤ s.size) (hc:cutAt c (sfx s k) = none) :
 Calls Tryz.prog 216 #[.pointer (some ⟨b,0,none⟩),.int .u8 (c.toNat:Int)] w fun e w'=>e = .returned (.tuple #[.string ⟨#[]⟩,.bool false]) ∧ ∃ n,w' = w.drewN n:=by
 have HI:=Hd (cut_index_no hc)
 obtain ⟨⟨c0,c1,c2⟩,hf⟩:=h.cells
 clear h hc hf
 go_enter Tryz.func216,Tryz.ntmps216
 go_wp2_with fail
 go_quiet ((go_at_call 188;exact Calls.quiet_of_same (idxc_is c _ _ _ _ HI.out)))
 go_wp2
 go_ret2
 exact ⟨rfl,_,rfl⟩
def Numbered (r:Option Nat) (w:World) (e:Ending) (w':World):Prop:=
 (match r with
   | some n=>e = .returned (.tuple #[.int .i64 n,.bool true])
   | none=>∃ x:Int,e = .returned (.tuple #[.int .i64 x,.bool false])) ∧ Below w.heap.size w w'
theorem numbered_no {w w':World} {r:Option Nat} {x:Int} (hr:r = none) (hb:Below w.heap.size w w'):Numbered r w (.returned (.tuple #[.int .i64 x,.bool false])) w':=by subst hr;exact ⟨⟨x,rfl⟩,hb⟩
theorem numbered_yes {w w':World} {r:Option Nat} {n:Nat} (hr:r = some n) (hb:Below w.heap.size w w'):Numbered r w (.returned (.tuple #[.int .i64 n,.bool true])) w':=by subst hr;exact ⟨rfl,hb⟩
theorem numbered_end {w w':World} {r:Option Nat} {n:Nat} (hr:r = if n ≤ 1099511627776 then some n else none) (hb:Below w.heap.size w w'):Numbered r w (.returned (.tuple #[.int .i64 n,.bool (decide ((n:Int) ≤ 1099511627776))])) w':=by
 by_cases h:n ≤ 1099511627776
 ·rw [if_pos h] at hr
  rw [decide_eq_true (show (n:Int) ≤ 1099511627776 by omega)]
  exact numbered_yes hr hb
 ·rw [if_neg h] at hr
  rw [decide_eq_false (show ¬ (n:Int) ≤ 1099511627776 by omega)]
  exact numbered_no hr hb
theorem valT_bd:∀ (n:Nat) (l:List UInt8),l.length = n → l.all digB = true → valT l < 10 ^ n
 | 0,l,hn,_=>by simp at hn;subst hn;simp [valT]
 | n + 1,l,hn,h=>by
   rcases List.eq_nil_or_concat l with rfl | ⟨m,c,rfl⟩
   ·simp at hn
   ·rw [List.concat_eq_append] at *
    rw [List.all_append,Bool.and_eq_true] at h
    have h1:=valT_bd n m (by simpa using hn) h.1
    have h2:digB c = true:=by simpa using h.2
    unfold digB at h2
    rw [decide_eq_true_iff] at h2
    rw [valT_snoc,Nat.pow_succ]
    omega
theorem bytes_below (w:World) (e:TypeId) (s:ByteArray):Below w.heap.size w (Lib.bytesWorld w e s):=
 ⟨rfl,rfl,rfl,by rw [Lib.bytesWorld_size];omega,fun k hk=>Lib.bytesWorld_at_old w e s k hk⟩
theorem numT_long {l:List UInt8} (h:15 < l.length):numT l = none:=by unfold numT;rw [if_pos (.inr (.inl h))]
theorem numT_zero {l:List UInt8} (h:1 < l.length) (h0:l.head? = some 48):numT l = none:=by unfold numT;rw [if_pos (.inr (.inr ⟨h,h0⟩))]
theorem numT_bad {l:List UInt8} (h:l.all digB = false):numT l = none:=by
 unfold numT
 split
 ·rfl
 ·rw [if_neg (by rw [h];simp)]
theorem numT_end {l:List UInt8} (h0:l ≠ []) (h1:l.length ≤ 15) (h2:1 < l.length → l.head? ≠ some 48) (h3:l.all digB = true):numT l = if valT l ≤ 1099511627776 then some (valT l) else none:=by
 unfold numT
 rw [if_neg (by rintro (h | h | h);exact h0 h;omega;exact h2 h.1 h.2)]
 by_cases h:valT l ≤ 1099511627776
 ·rw [if_pos ⟨h3,h⟩,if_pos h]
 ·rw [if_neg (fun e=>h e.2),if_neg h]
set_option maxHeartbeats 4000000 in
set_option maxRecDepth 100000 in
theorem number_ok (s:ByteArray) (w:World):Calls Tryz.prog 182 #[.string s] w (Numbered (numT s.data.toList) w):=by
 have hl:s.data.toList.length = s.size:=by rw [Array.length_toList];rfl
 have Hl:=Hd hl
 clear hl
 by_cases h0:s.size = 0
 ·have hfin:=Hd (show numT s.data.toList = none by unfold numT;rw [if_pos (.inl (List.eq_nil_of_length_eq_zero (by rw [Hl.out];exact h0)))])
  have t1:s.toList.isEmpty = true:=by
   rw [Lib.toList_data,List.isEmpty_iff]
   exact List.eq_nil_of_length_eq_zero (by rw [Hl.out];exact h0)
  go_enter Tryz.func182,Tryz.ntmps182
  go_wp2_with fail
  go_ret2
  exact numbered_no hfin.out (Below.refl _ _)
 ·have t1:s.toList.isEmpty = false:=by
   rw [Lib.toList_data,List.isEmpty_eq_false_iff]
   intro e
   have:=Hl.out
   rw [e] at this
   exact h0 this.symm
  by_cases h15:15 < s.size
  ·have hfin:=Hd (numT_long (l:=s.data.toList) (by rw [Hl.out];exact h15))
   have t2:(15:Int) < s.size:=by omega
   go_enter Tryz.func182,Tryz.ntmps182
   go_wp2_with fail
   go_ret2
   exact numbered_no hfin.out (Below.refl _ _)
  ·have t2:(s.size:Int) ≤ 15:=by omega
   by_cases hz:1 < s.size ∧ s.data.toList.head? = some 48
   ·have hfin:=Hd (numT_zero (l:=s.data.toList) (by rw [Hl.out];exact hz.1) hz.2)
    have h1:0 < s.size:=by omega
    have t3:(1:Int) < s.size:=by omega
    have t4:((s[0].toNat:Int) == 48) = true:=by
     have:=hz.2
     rw [head_at s h1] at this
     simp [Option.some.inj this]
    clear hz
    go_enter Tryz.func182,Tryz.ntmps182
    go_wp2_with fail
    go_ret2
    exact numbered_no hfin.out (Below.refl _ _)
   ·have h1:0 < s.size:=by omega
    have HZ:=Hd (show 1 < s.data.toList.length → s.data.toList.head? ≠ some 48 from fun a b=>hz ⟨by rw [Hl.out] at a;exact a,b⟩)
    have hcv:=fun w:World=>Lib.run_convert_string_bytes (P:=Tryz.prog) w 9 120 5 s Tryz.underlying9 Tryz.underlying120 Tryz.underlying5
    have hz':((s.size:Int) ≤ 1) ∨ ((1:Int) < s.size ∧ ((s[0].toNat:Int) == 48) = false):=by
     by_cases h:1 < s.size
     ·refine .inr ⟨by omega,?_⟩
      have h3:s.data.toList.head? ≠ some 48:=fun e=>hz ⟨h,e⟩
      rw [head_at s h1] at h3
      rw [beq_eq_false_iff_ne]
      intro e
      have e':s[0].toNat = 48:=by omega
      exact h3 (by rw [Option.some.injEq];exact UInt8.toNat_inj.1 e')
     ·exact .inl (by omega)
    clear hz
    go_enter Tryz.func182,Tryz.ntmps182
    go_upto_region 1 with fail
    go_cut [23] (fun v wx=>v = .bool false ∧ w = wx)
    case first=>
     rcases hz' with h | ⟨h,h'⟩
     all_goals
      go_wp2_with fail
      go_meet
      exact ⟨by congr 1;simp_all;try omega,rfl⟩
    case rest=>
     obtain ⟨rfl,rfl⟩:=hcut
     clear hz'
     go_wp2_with fail
     have hcell:∀ j (hj:j < s.size),(Lib.bytesWorld w 5 s).cell? ⟨w.heap.size,j,none⟩ = some (.int .u8 (s[j].toNat:Int)):=fun j hj=>by
      rw [Lib.bytesWorld_cell _ _ _ _ hj,getD_lt _ _ (by rw [Hl.out];exact hj)]
      rfl
     have HC:=Hd hcell
     have HB:=Hd (bytes_below w 5 s)
     clear hcell hcv
     generalize Lib.bytesWorld w 5 s = w1 at HC HB ⊢
     go_loop [4,27] (fun nv i=>∃ k:Nat,k ≤ s.size ∧ i = .int .i64 k ∧ nv = .int .i64 (valT (s.data.toList.take k):Nat) ∧ Hid ((s.data.toList.take k).all digB = true)) (fun _ i=>s.size - (intOf i).toNat)
     case atStart=>exact ⟨0,Nat.zero_le _,rfl,rfl,rfl⟩
     case round=>
      obtain ⟨k,hk,rfl,rfl,hd⟩:=hrel
      have hv:valT (s.data.toList.take k) < 10 ^ 15:=Nat.lt_of_lt_of_le (valT_bd _ _ rfl hd.out) (Nat.pow_le_pow_right (by decide) (by rw [List.length_take];omega))
      have hv':(valT (s.data.toList.take k):Int) < 1000000000000000:=by omega
      clear hv
      by_cases hlt:k < s.size
      ·have hc:=HC.out k hlt
       have HT:=Hd (take_snoc s k hlt)
       rcases hdk:digB s[k] with _ | _
       ·have hfin:=Hd (show numT s.data.toList = none from numT_bad (by
         rw [Bool.eq_false_iff];intro e
         have:=List.all_eq_true.1 e _ (List.getElem_mem (l:=s.data.toList) (n:=k) (by rw [Hl.out];exact hlt))
         rw [show s.data.toList[k]'(by rw [Hl.out];exact hlt) = s[k] from rfl,hdk] at this;cases this))
        have hw:(s[k].toNat:Int) < 48 ∨ (48 ≤ (s[k].toNat:Int) ∧ 57 < (s[k].toNat:Int)):=by
         unfold digB at hdk
         rw [decide_eq_false_iff_not] at hdk
         omega
        clear hdk
        rcases hw with h | ⟨h,h'⟩
        all_goals
         go_wp2_with fail
         go_ret2
         exact numbered_no hfin.out HB.out
       ·have h1:48 ≤ (s[k].toNat:Int) ∧ (s[k].toNat:Int) ≤ 57:=by
         unfold digB at hdk
         rw [decide_eq_true_iff] at hdk
         omega
        obtain ⟨h1,h2⟩:=h1
        have hd':=Hd (show (s.data.toList.take (k + 1)).all digB = true by rw [HT.out,List.all_append,hd.out];simp [hdk])
        have hv2:=Hd (show valT (s.data.toList.take (k + 1)) = 10 * valT (s.data.toList.take k) + (s[k].toNat - 48) by rw [HT.out,valT_snoc])
        clear hdk
        have hx0:(0:Int) ≤ (valT (s.data.toList.take k):Int):=by omega
        have HV:=Hd (show (valT (s.data.toList.take (k + 1)):Int) = 10 * (valT (s.data.toList.take k):Int) + ((s[k].toNat:Int) - 48) by have:=hv2.out;omega)
        clear hv2
        generalize (valT (s.data.toList.take k):Int) = x at hv' hx0 HV ⊢
        generalize (s[k].toNat:Int) = c at hc h1 h2 HV
        go_wp2_with fail
        go_round
        case rel=>exact ⟨k + 1,by omega,by go_num,by rw [HV.out],hd'⟩
        case measure=>simp [intOf];omega
      ·obtain rfl:k = s.size:=by omega
       rw [← Hl.out,List.take_length] at hd hv' ⊢
       have hfin:=Hd (numT_end (l:=s.data.toList) (by intro e;rw [e] at Hl;exact h0 Hl.out.symm) (by rw [Hl.out];omega) HZ.out hd.out)
       obtain ⟨n,en⟩:∃ n,n = valT s.data.toList:=⟨_,rfl⟩
       rw [← en] at hfin hv' ⊢
       clear hd en
       go_wp2_with fail
       go_ret2
       exact numbered_end hfin.out HB.out
end Go.Proofs.YtkokdafkjjcgoaaGreatDoor
