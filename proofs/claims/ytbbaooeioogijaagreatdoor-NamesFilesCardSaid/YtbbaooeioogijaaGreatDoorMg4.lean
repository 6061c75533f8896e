/- Trees: nodes behind their parts; where a part begins, what i · An argument that is a slice, opened by its elements. · Nodes in the world: a node by value, a list of nodes. · Rows of one's own, as lists of elements of k cells each. · Elem, Sign, Decay, Promote, Common: what they tell. · Decay, Promote: the program. · How a type is written: the program, but for functions. · How a type is written: the program: pointers, arrays, words. · How a type is written: the program: functions, all types. · Whether a type has the parts that it may have: the program. -/
import Derived.Test.YtbbaooeioogijaaGreatDoorMg1
import Derived.Test.YtbbaooeioogijaaGreatDoorChecked
import Derived.Deep.Slices
import Derived.ProofKit
import Derived.OpenShut
import Derived.SizedLaws
import Derived.Test.YtbbaooeioogijaaGreatDoorMg3
import Derived.IntWalk
import Derived.Deep.DeepCutAuto
import Derived.Laws.AppendOwn
import Derived.Deep.LoopGhost
namespace Go.Proofs.YtbbaooeioogijaaGreatDoor
structure Nd where
 kind:Int
 n:Int
 at_:Int
 int:Int
 text:ByteArray
 type:ByteArray
def arityN (k:Int):Int × Int:=
 if k = 1 ∨ k = 2 ∨ k = 3 ∨ k = 17 ∨ k = 30 ∨ k = 31 ∨ k = 33 then (0,0)
 else if k = 4 ∨ k = 5 ∨ k = 6 ∨ k = 13 ∨ k = 14 ∨ k = 15 ∨ k = 16 ∨ k = 20 ∨ k = 29 then (1,1)
 else if k = 7 ∨ k = 8 ∨ k = 10 ∨ k = 12 ∨ k = 24 ∨ k = 25 ∨ k = 27 ∨ k = 28 then (2,2)
 else if k = 9 then (3,3)
 else if k = 26 then (4,4)
 else if k = 11 then (1,9)
 else if k = 21 then (0,4096)
 else if k = 22 ∨ k = 32 then (0,1)
 else if k = 23 then (2,3)
 else (-1,-1)
def typedS (s:ByteArray):Bool:=decide (checkS [] s = 0 ∨ checkS [] s = 4)
def objectS (s:ByteArray):Bool:=(tyS s).any objectT
def marksB:List ByteArray:=[⟨#[42]⟩,⟨#[47]⟩,⟨#[37]⟩,⟨#[43]⟩,⟨#[45]⟩,⟨#[60,60]⟩,⟨#[62,62]⟩,⟨#[60]⟩,⟨#[62]⟩,⟨#[60,61]⟩,⟨#[62,61]⟩,⟨#[61,61]⟩,⟨#[33,61]⟩,⟨#[38]⟩,⟨#[94]⟩,⟨#[124]⟩,⟨#[38,38]⟩,⟨#[124,124]⟩]
def marksN (k:Int):List ByteArray:=
 if k = 4 then [⟨#[45]⟩,⟨#[126]⟩,⟨#[33]⟩,⟨#[38]⟩,⟨#[42]⟩]
 else if k = 5 ∨ k = 6 then [⟨#[43,43]⟩,⟨#[45,45]⟩]
 else if k = 7 then marksB
 else if k = 8 then [⟨#[61]⟩,⟨#[42,61]⟩,⟨#[47,61]⟩,⟨#[37,61]⟩,⟨#[43,61]⟩,⟨#[45,61]⟩,⟨#[60,60,61]⟩,⟨#[62,62,61]⟩,⟨#[38,61]⟩,⟨#[94,61]⟩,⟨#[124,61]⟩]
 else []
def noText (s:ByteArray):Bool:=decide (s.size = 0)
def numberN (x:Nd):Bool:=if x.type = ⟨#[117]⟩ then decide (0 ≤ x.int ∧ x.int < 4294967296) else decide (x.type = ⟨#[105]⟩) && decide (-128 ≤ x.int ∧ x.int < 2147483648)
def sizeOk (x:Nd):Bool:=decide (0 ≤ (arityN x.kind).1 ∧ (arityN x.kind).1 ≤ x.n ∧ x.n ≤ (arityN x.kind).2 ∧ 0 ≤ x.at_ ∧ x.at_ ≤ 65536)
def intOk (x:Nd):Bool:=decide (x.int = 0 ∨ (x.kind = 22 ∧ x.int = 1))
def bodyOk (x:Nd):Bool:=
 if x.kind = 2 then decide (x.text.size ≤ 4096) && noText x.type
 else if x.kind = 3 ∨ x.kind = 13 ∨ x.kind = 14 then isNameB x.text && noText x.type
 else if x.kind = 22 then isNameB x.text && (typedS x.type && objectS x.type)
 else if x.kind = 4 ∨ x.kind = 5 ∨ x.kind = 6 ∨ x.kind = 7 ∨ x.kind = 8 then Lib.containsS (marksN x.kind) x.text && noText x.type
 else if x.kind = 15 ∨ x.kind = 17 then noText x.text && typedS x.type
 else noText x.text && noText x.type
def wellN (x:Nd):Bool:=sizeOk x && (if x.kind = 1 then numberN x && noText x.text else intOk x && bodyOk x)
def beginsF:List Nd → Nat → List Nat → Option (List Nat × List Nat)
 | [],_,st=>some ([],st)
 | x :: l,i,st=>
   if x.n < 0 ∨ (st.length:Int) < x.n then none
   else
    let a:=if 0 < x.n then st.getD (x.n.toNat - 1) 0 else i
    (beginsF l (i + 1) (a :: st.drop x.n.toNat)).map fun r=>(a :: r.1,r.2)
def beginsN (t:List Nd):Option (List Nat):=match beginsF t 0 [] with
 | some (f,[_])=>some f
 | _=>none
def partsE (fr:List Nat):Nat → Nat → List Nat
 | 0,_=>[]
 | n + 1,e=>partsE fr n (fr.getD (e - 1) 0) ++ [e - 1]
def Back (fr:List Nat):Nat → Nat → Prop
 | 0,_=>True
 | n + 1,e=>0 < e ∧ fr.getD (e - 1) 0 < e ∧ Back fr n (fr.getD (e - 1) 0)
def Ends (fr:List Nat):List Nat → Nat → Prop
 | [],_=>True
 | s :: st,e=>s < e ∧ fr.getD (e - 1) 0 = s ∧ Ends fr st s
theorem Ends.back {fr:List Nat}:∀ {st:List Nat} {e n:Nat},Ends fr st e → n ≤ st.length → Back fr n e
 | _,_,0,_,_=>trivial
 | [],_,n + 1,_,h=>by simp at h
 | s :: st,e,n + 1,⟨h1,h2,h3⟩,h=>⟨by omega,by omega,by rw [h2];exact Ends.back h3 (by simpa using h)⟩
theorem getD_app {fr g:List Nat} {k:Nat} (h:k < fr.length):(fr ++ g).getD k 0 = fr.getD k 0:=by
 rw [List.getD_eq_getElem?_getD,List.getD_eq_getElem?_getD,List.getElem?_append_left h]
theorem Ends.app {fr g:List Nat}:∀ {st:List Nat} {e:Nat},e ≤ fr.length → Ends fr st e → Ends (fr ++ g) st e
 | [],_,_,_=>trivial
 | s :: st,e,he,⟨h1,h2,h3⟩=>⟨h1,by rw [getD_app (by omega)];exact h2,Ends.app (by omega) h3⟩
theorem Ends.drop {fr:List Nat}:∀ {st:List Nat} {e:Nat} (n:Nat),Ends fr st e → 0 < n → n ≤ st.length → Ends fr (st.drop n) (st.getD (n - 1) 0)
 | [],_,n,_,h0,h=>by simp at h;omega
 | s :: st,e,n + 1,⟨h1,h2,h3⟩,_,h=>by
   cases n with
   | zero=>simpa using h3
   | succ n=>
     have:=Ends.drop (n + 1) h3 (by omega) (by simpa using h)
     simpa using this
theorem Ends.lt {fr:List Nat}:∀ {st:List Nat} {e:Nat} (n:Nat),Ends fr st e → n < st.length → st.getD n 0 < e
 | [],_,n,_,h=>by simp at h
 | s :: st,e,0,⟨h1,_,_⟩,_=>by simpa using h1
 | s :: st,e,n + 1,⟨h1,_,h3⟩,h=>by
   have:=Ends.lt n h3 (by simpa using h)
   simp only [List.getD_cons_succ]
   omega
theorem begins_back:∀ (l:List Nd) (pre:List Nat) (st:List Nat) {f st':List Nat},beginsF l pre.length st = some (f,st') → Ends pre st pre.length →
 f.length = l.length ∧ Ends (pre ++ f) st' (pre.length + l.length) ∧ ∀ (j:Nat) x,l[j]? = some x → 0 ≤ x.n ∧ Back (pre ++ f) x.n.toNat (pre.length + j) ∧ (pre ++ f).getD (pre.length + j) 0 ≤ pre.length + j
 | [],pre,st,f,st',h,he=>by
   rw [beginsF] at h
   obtain ⟨rfl,rfl⟩:=Prod.mk.inj (Option.some.inj h)
   exact ⟨rfl,by simpa using he,fun j x hx=>by simp at hx⟩
 | x :: l,pre,st,f,st',h,he=>by
   rw [beginsF] at h
   split at h
   ·cases h
   ·rename_i hn
    simp only [Option.map_eq_some_iff] at h
    obtain ⟨⟨g,st2⟩,hg,e⟩:=h
    obtain ⟨rfl,rfl⟩:=Prod.mk.inj e
    simp only at hg ⊢
    generalize ha:(if 0 < x.n then st.getD (x.n.toNat - 1) 0 else pre.length) = a at *
    have hle:x.n.toNat ≤ st.length:=by omega
    have ha1:a ≤ pre.length:=by
     rw [← ha]
     split
     ·exact Nat.le_of_lt (he.lt _ (by omega))
     ·exact Nat.le_refl _
    have he2:Ends (pre ++ [a]) (a :: st.drop x.n.toNat) (pre ++ [a]).length:=by
     refine ⟨by simp;omega,by simp,?_⟩
     by_cases h0:0 < x.n
     ·rw [if_pos h0] at ha
      rw [← ha]
      exact (he.drop x.n.toNat (by omega) hle).app (by rw [ha];exact ha1)
     ·rw [if_neg h0] at ha
      have:x.n.toNat = 0:=by omega
      rw [this,← ha]
      simpa using he.app (Nat.le_refl _)
    have hl1:(pre ++ [a]).length = pre.length + 1:=by simp
    obtain ⟨h1,h2,h3⟩:=begins_back l (pre ++ [a]) _ (by rw [hl1];exact hg) he2
    have hap:pre ++ [a] ++ g = pre ++ a :: g:=by simp
    rw [hap,hl1] at h2 h3
    refine ⟨by simp [h1],by rw [show pre.length + (x :: l).length = pre.length + 1 + l.length by simp;omega];exact h2,fun j y hy=>?_⟩
    cases j with
    | zero=>
      obtain rfl:=Option.some.inj hy
      refine ⟨by omega,?_,?_⟩
      ·have:=(he.app (g:=a :: g) (Nat.le_refl _)).back (n:=x.n.toNat) hle
       simpa using this
      ·rw [List.getD_eq_getElem?_getD,Nat.add_zero,List.getElem?_append_right (Nat.le_refl _),Nat.sub_self]
       exact ha1
    | succ j=>
      have:=h3 j y (by simpa using hy)
      rw [show pre.length + (j + 1) = pre.length + 1 + j by omega]
      exact this
structure Formed (t:List Nd) (fr:List Nat):Prop where
 len:fr.length = t.length
 pos:0 < t.length
 node:∀ (j:Nat) x,t[j]? = some x → 0 ≤ x.n ∧ Back fr x.n.toNat j ∧ fr.getD j 0 ≤ j
theorem formed_of {t:List Nd} {fr:List Nat} (h:beginsN t = some fr):Formed t fr:=by
 unfold beginsN at h
 split at h
 ·rename_i f s hb
  obtain rfl:=Option.some.inj h
  obtain ⟨h1,h2,h3⟩:=begins_back t [] [] hb trivial
  refine ⟨h1,?_,fun j x hx=>by simpa using h3 j x hx⟩
  have:=h2.1
  simp at this;omega
 ·cases h
def exprK (k:Int):Bool:=decide (1 ≤ k ∧ k ≤ 17)
def stmtK (k:Int):Bool:=decide (20 ≤ k ∧ k ≤ 32 ∧ k ≠ 22)
def mayN (k:Int) (i:Nat) (q:Int):Bool:=
 if exprK k = true ∨ k = 20 ∨ k = 32 ∨ k = 22 then exprK q
 else if k = 26 then (if i = 0 then decide (q = 20 ∨ q = 22 ∨ q = 33) else if i = 3 then stmtK q else exprK q || decide (q = 33))
 else if k = 21 then stmtK q || decide (q = 22)
 else if k = 25 then (if i = 0 then stmtK q else exprK q)
 else if k = 23 ∨ k = 24 ∨ k = 27 ∨ k = 28 then (if i = 0 then exprK q else stmtK q)
 else stmtK q
def kindAt (t:List Nd) (k:Nat):Int:=(t[k]?.map Nd.kind).getD 0
def partsAt (t:List Nd) (fr:List Nat) (k:Nat):List Nat:=partsE fr ((t[k]?.map fun x=>x.n.toNat).getD 0) k
def openF (t:List Nd) (fr:List Nat):Nat → Nat → Bool
 | 0,_=>false
 | m + 1,k=>
   let p:=partsAt t fr k
   if kindAt t k = 23 then decide (p.length = 2) || openF t fr m (p.getD 2 0)
   else if kindAt t k = 24 ∨ kindAt t k = 26 ∨ kindAt t k = 27 ∨ kindAt t k = 28 ∨ kindAt t k = 29 then openF t fr m (p.getD (p.length - 1) 0)
   else false
def openN (t:List Nd) (fr:List Nat) (k:Nat):Bool:=openF t fr (k + 1) k
def mayAll (t:List Nd) (k:Int):Nat → List Nat → Bool
 | _,[]=>true
 | i,p :: l=>mayN k i (kindAt t p) && mayAll t k (i + 1) l
def fitsN (t:List Nd) (fr:List Nat) (k:Nat):Bool:=
 mayAll t (kindAt t k) 0 (partsAt t fr k) && (decide (kindAt t k ≠ 23) || (decide ((partsAt t fr k).length < 3) || !openN t fr ((partsAt t fr k).getD 1 0)))
def deepF:List Nd → List Nat → List Nat
 | [],st=>st
 | x :: l,st=>deepF l (((st.take x.n.toNat).foldl max 0 + 1) :: st.drop x.n.toNat)
def deepN (t:List Nd):Nat:=(deepF t []).getD 0 0
def checkN9 (t:List Nd):Int:=
 if 4096 < t.length then 3
 else if t.all wellN = false then 90
 else match beginsN t with
  | none=>90
  | some fr=>if (List.range t.length).all (fitsN t fr) = false then 90 else if 48 < deepN t then 3 else 0
end Go.Proofs.YtbbaooeioogijaaGreatDoor
namespace Go.Proofs.YtbbaooeioogijaaGreatDoor
open Go.ChangeShapes Go.WideShapes Go.ChangeAt Go.RowKit Go.Deep
def IsSl {α:Type} (k:Nat) (cells:α → List Value) (B:Nat) (w:World) (a:Option Addr) (L:List α):Prop:=
 L ≠ [] → ∃ b off,a = some ⟨b,off,none⟩ ∧ b < B ∧ ∀ (i:Nat) t,L[i]? = some t → ∀ (j:Nat) u,(cells t)[j]? = some u → w.cell? ⟨b,off + i * k + j,none⟩ = some u
theorem IsSl.below {α:Type} {k:Nat} {cells:α → List Value} {B B':Nat} {w w':World} {a:Option Addr} {L:List α} (h:IsSl k cells B w a L) (hb:Below B' w w') (hB:B ≤ B'):IsSl k cells B w' a L:=fun hn=>by
 obtain ⟨b,off,rfl,hlt,hc⟩:=h hn
 exact ⟨b,off,rfl,hlt,fun i t ht j u hu=>by rw [hb.cell (show b < B' by omega)];exact hc i t ht j u hu⟩
theorem IsSl.mono {α:Type} {k:Nat} {cells:α → List Value} {B B':Nat} {w:World} {a:Option Addr} {L:List α} (h:IsSl k cells B w a L) (hB:B ≤ B'):IsSl k cells B' w a L:=fun hn=>by
 obtain ⟨b,off,rfl,hlt,hc⟩:=h hn
 exact ⟨b,off,rfl,by omega,hc⟩
theorem isSl_nil {α:Type} {k:Nat} {cells:α → List Value} {B:Nat} {w:World} {a:Option Addr}:IsSl k cells B w a []:=fun h=>absurd rfl h
section
variable {H:Type} {enc:TypeId × Value → H} {w:World} {base:Nat} {spare:Nat → Bool} {held:Bool}
theorem open_list {t e:TypeId} {k:Nat} (hk0:0 < k) (ht:Tryz.prog.underlying t = some (.slice e)) (hk:Tryz.prog.cellsOf e = k) {α:Type} (cells:α → List Value) (data:α → DataW H) (Ok:α → Prop)
 (hel:∀ {n:Nat} {cs:List Value} {D:DataW H} {pl:List MemPlace},DataW.trod enc Tryz.prog w base spare held n e cs = some (D,pl) → ∃ a,cs = cells a ∧ D = data a ∧ Ok a)
 {fuel:Nat} {v:Value} {x:DataW H × List MemPlace} (h:DataW.trod enc Tryz.prog w base spare held fuel t [v] = some x) :
 ∃ (a:Option Addr) (cap:Nat) (L:List α),v = .slice a L.length cap ∧ L.length ≤ cap ∧ cap ≤ maxLen ∧ (a = none → L = [] ∧ cap = 0) ∧ ((x.1 = .nil ∧ L = []) ∨ ∃ rest,x.1 = .slice (L.map data) rest) ∧ IsSl k cells w.heap.size w a L ∧ ∀ t ∈ L,Ok t:=by
 rcases open_slice ht h with ⟨hv,hx⟩ | ⟨a,len,cap,m,n,D,Pl,hv,_,hl,hcm,hm,hx,hi⟩
 ·exact ⟨none,0,[],by simpa using hv,Nat.zero_le _,Nat.zero_le _,fun _=>⟨rfl,rfl⟩,.inl ⟨by rw [hx],rfl⟩,isSl_nil,fun t ht=>by cases ht⟩
 ·have hlm:len ≤ m:=by rw [hm];split <;> omega
  have hD:∀ i,i < len → ∃ t:α,D i = data t ∧ Ok t ∧ (cells t).length = k ∧ ∀ j,j < k → w.cell? ((a.add (i * k)).add j) = (cells t)[j]?:=fun i hlt=>by
   obtain ⟨cs',hc,ht⟩:=hi i (by omega)
   obtain ⟨t,rfl,hd,hok⟩:=hel ht
   rw [hk] at hc
   exact ⟨t,hd,hok,(World.cells?_some hc).2⟩
  have key:∀ q,q ≤ len → ∃ L:List α,L.length = q ∧ (List.range q).map D = L.map data ∧ ∀ (i:Nat) t,L[i]? = some t → Ok t ∧ (cells t).length = k ∧ ∀ j,j < k → w.cell? ((a.add (i * k)).add j) = (cells t)[j]?:=by
   intro q
   induction q with
   | zero=>intro _;exact ⟨[],rfl,rfl,fun i t hi=>by simp at hi⟩
   | succ q ih=>
     intro hq
     obtain ⟨L,hL,hm',hc⟩:=ih (by omega)
     obtain ⟨t,hd,hok,hcell⟩:=hD q (by omega)
     refine ⟨L ++ [t],by simp [hL],by rw [List.range_succ,List.map_append,List.map_append,hm'];simp [hd],fun i u hu=>?_⟩
     rcases Nat.lt_or_ge i L.length with h' | h'
     ·rw [List.getElem?_append_left h'] at hu;exact hc i u hu
     ·rw [List.getElem?_append_right h'] at hu
      have hi0:i - L.length = 0:=by
       rcases Nat.eq_zero_or_pos (i - L.length) with h0 | h0
       ·exact h0
       ·rw [List.getElem?_eq_none (by simp;omega)] at hu;cases hu
      rw [hi0] at hu
      obtain rfl:=Option.some.inj hu
      obtain rfl:i = q:=by omega
      exact ⟨hok,hcell⟩
  obtain ⟨L,hL,hm',hc⟩:=key len (Nat.le_refl _)
  subst hL
  refine ⟨some a,cap,L,by simpa using hv,hl,hcm,(fun h=>by cases h),.inr ⟨_,by rw [hx,hm']⟩,fun hne=>?_,fun t ht=>?_⟩
  ·obtain ⟨b,off,sp⟩:=a
   have h0:0 < L.length:=List.length_pos_iff.2 hne
   have hsp:sp = none:=by
    obtain ⟨_,hlk,hat⟩:=hc 0 _ (List.getElem?_eq_getElem h0)
    have h:=hat 0 hk0
    rw [List.getElem?_eq_getElem (by omega)] at h
    simp only [Nat.zero_mul,Addr.add,if_true,World.cell?] at h
    cases sp with
    | none=>rfl
    | some z=>
      exfalso
      simp at h
      split at h <;> simp at h
   subst hsp
   have hadd:∀ i j,(((⟨b,off,none⟩:Addr).add i).add j) = ⟨b,off + i + j,none⟩:=by
    intro i j
    unfold Addr.add
    split <;> split <;> simp_all
   have hall:∀ (i:Nat) t,L[i]? = some t → ∀ (j:Nat) u,(cells t)[j]? = some u → w.cell? ⟨b,off + i * k + j,none⟩ = some u:=fun i t ht j u hu=>by
    obtain ⟨_,hlk,hat⟩:=hc i t ht
    have hj:j < k:=by obtain ⟨h1,_⟩:=List.getElem?_eq_some_iff.1 hu;omega
    have:=hat j hj
    rw [hadd] at this
    rw [this,hu]
   refine ⟨b,off,rfl,?_,hall⟩
   obtain ⟨_,hlk,_⟩:=hc 0 _ (List.getElem?_eq_getElem h0)
   exact World.block_lt_of_cell? w _ (hall 0 _ (List.getElem?_eq_getElem h0) 0 _ (List.getElem?_eq_getElem (by omega)))
  ·obtain ⟨i,hi,rfl⟩:=List.getElem_of_mem ht
   exact (hc i _ (List.getElem?_eq_getElem hi)).1
end
end Go.Proofs.YtbbaooeioogijaaGreatDoor
namespace Go.Proofs.YtbbaooeioogijaaGreatDoor
open Go.ChangeShapes Go.WideShapes Go.ChangeAt Go.RowKit Go.Deep
def ndCells (x:Nd):List Value:=[.int .i64 x.kind,.int .i64 x.n,.int .i64 x.at_,.int .i64 x.int,.string x.text,.string x.type]
def ndV (x:Nd):Value:=.agg #[.int .i64 x.kind,.int .i64 x.n,.int .i64 x.at_,.int .i64 x.int,.string x.text,.string x.type]
abbrev ndObj (x:Nd):Obj:=.cells #[.int .i64 x.kind,.int .i64 x.n,.int .i64 x.at_,.int .i64 x.int,.string x.text,.string x.type] 47
theorem six_block {w:World} {b:Nat} {a0 a1 a2 a3 a4 a5:Value} {T:TypeId} (h:w.heap[b]? = some (.cells #[a0,a1,a2,a3,a4,a5] T (0,0))) :
 (w.cell? ⟨b,0,none⟩ = some a0 ∧ w.cell? ⟨b,1,none⟩ = some a1 ∧ w.cell? ⟨b,2,none⟩ = some a2 ∧ w.cell? ⟨b,3,none⟩ = some a3 ∧ w.cell? ⟨b,4,none⟩ = some a4 ∧ w.cell? ⟨b,5,none⟩ = some a5) ∧ ∀ j,w.frozen? ⟨b,j,none⟩ = false:=by
 refine ⟨⟨?_,?_,?_,?_,?_,?_⟩,fun j=>?_⟩ <;> simp [World.cell?,World.frozen?,h]
abbrev IsNds (B:Nat) (w:World) (a:Option Addr) (t:List Nd):Prop:=IsSl 6 ndCells B w a t
theorem nds_at {B:Nat} {w:World} {a:Option Addr} {t:List Nd} (h:IsNds B w a t) {i:Nat} (hi:i < t.length):∃ b off,a = some ⟨b,off,none⟩ ∧ b < B ∧
 w.cell? ⟨b,off + i * 6,none⟩ = some (.int .i64 t[i].kind) ∧ w.cell? ⟨b,off + i * 6 + 1,none⟩ = some (.int .i64 t[i].n) ∧ w.cell? ⟨b,off + i * 6 + 2,none⟩ = some (.int .i64 t[i].at_) ∧ w.cell? ⟨b,off + i * 6 + 3,none⟩ = some (.int .i64 t[i].int) ∧ w.cell? ⟨b,off + i * 6 + 4,none⟩ = some (.string t[i].text) ∧ w.cell? ⟨b,off + i * 6 + 5,none⟩ = some (.string t[i].type):=by
 obtain ⟨b,off,e,hlt,hc⟩:=h (fun e=>by rw [e] at hi;simp at hi)
 have hx:=List.getElem?_eq_getElem hi
 exact ⟨b,off,e,hlt,hc i _ hx 0 _ rfl,hc i _ hx 1 _ rfl,hc i _ hx 2 _ rfl,hc i _ hx 3 _ rfl,hc i _ hx 4 _ rfl,hc i _ hx 5 _ rfl⟩
section
variable {H:Type} {enc:TypeId × Value → H} {w:World} {base:Nat} {spare:Nat → Bool} {held:Bool}
def ndData (x:Nd):DataW H:=.agg [.lit (.int .i64 x.kind),.lit (.int .i64 x.n),.lit (.int .i64 x.at_),.lit (.int .i64 x.int),.lit (.string x.text.data.toList),.lit (.string x.type.data.toList)]
theorem cellsNd:Tryz.prog.cellsOf 47 = 6:=by kernel_rfl
theorem cellsI9:Tryz.prog.cellsOf 3 = 1:=by kernel_rfl
theorem cellsS9:Tryz.prog.cellsOf 9 = 1:=by kernel_rfl
theorem cellsT9:Tryz.prog.cellsOf 40 = 1:=by kernel_rfl
def i64In (n:Int):Prop:=-9223372036854775808 ≤ n ∧ n ≤ 9223372036854775807
def NdOk (x:Nd):Prop:=i64In x.kind ∧ i64In x.n ∧ i64In x.at_ ∧ i64In x.int
set_option maxRecDepth 100000 in
theorem open_nd {n:Nat} {cs:List Value} {D:DataW H} {pl:List MemPlace} (h:DataW.trod enc Tryz.prog w base spare held n 47 cs = some (D,pl)) :
 ∃ x:Nd,cs = ndCells x ∧ D = ndData x ∧ NdOk x:=by
 obtain ⟨xs,n',_,hx,hlen,hxs,hf⟩:=DataW.trod_struct Tryz.underlying47 h
 rw [cellsNd] at hlen
 match cs,hlen with
 | [c0,c1,c2,c3,c4,c5],_=>
   match xs,hxs with
   | [y0,y1,y2,y3,y4,y5],_=>
     have f0:=hf 0 _ rfl
     have f1:=hf 1 _ rfl
     have f2:=hf 2 _ rfl
     have f3:=hf 3 _ rfl
     have f4:=hf 4 _ rfl
     have f5:=hf 5 _ rfl
     simp [cellsI9] at f0 f1 f2 f3
     simp [cellsS9] at f4
     simp [cellsT9] at f5
     obtain ⟨a0,e0,r0,w0⟩:=DataW.trod_int Tryz.underlying3 f0
     obtain ⟨a1,e1,r1,w1⟩:=DataW.trod_int Tryz.underlying3 f1
     obtain ⟨a2,e2,r2,w2⟩:=DataW.trod_int Tryz.underlying3 f2
     obtain ⟨a3,e3,r3,w3⟩:=DataW.trod_int Tryz.underlying3 f3
     obtain ⟨a4,e4,r4,_⟩:=DataW.trod_string Tryz.underlying9 f4
     obtain ⟨a5,e5,r5,_⟩:=DataW.trod_string Tryz.underlying40 f5
     simp only [List.cons.injEq,and_true] at e0 e1 e2 e3 e4 e5
     subst e0 e1 e2 e3 e4 e5 r0 r1 r2 r3 r4 r5
     exact ⟨⟨a0,a1,a2,a3,a4,a5⟩,rfl,congrArg Prod.fst hx,bounds_i64 w0,bounds_i64 w1,bounds_i64 w2,bounds_i64 w3⟩
theorem open_tree {fuel:Nat} {v:Value} {x:DataW H × List MemPlace} (h:DataW.trod enc Tryz.prog w base spare held fuel 43 [v] = some x) :
 ∃ (a:Option Addr) (cap:Nat) (Q:List Nd),v = .slice a Q.length cap ∧ Q.length ≤ cap ∧ cap ≤ maxLen ∧ (a = none → Q = [] ∧ cap = 0) ∧ ((x.1 = .nil ∧ Q = []) ∨ ∃ rest,x.1 = .slice (Q.map ndData) rest) ∧ IsNds w.heap.size w a Q ∧ ∀ q ∈ Q,NdOk q:=
 open_list (by decide) Tryz.underlying43 cellsNd ndCells ndData NdOk (fun h=>open_nd h) h
end
end Go.Proofs.YtbbaooeioogijaaGreatDoor
namespace Go.Proofs.YtbbaooeioogijaaGreatDoor
open Go.RowKit
theorem flat_len {α:Type} {k:Nat} {cells:α → List Value} (hk:∀ a,(cells a).length = k):∀ L:List α,(L.flatMap cells).length = L.length * k
 | []=>by simp
 | a :: L=>by rw [List.flatMap_cons,List.length_append,hk,flat_len hk L,List.length_cons,Nat.add_mul];omega
theorem flat_at {α:Type} {k:Nat} {cells:α → List Value} (hk:∀ a,(cells a).length = k):∀ {L:List α} {i j:Nat} {a:α} {u:Value},L[i]? = some a → (cells a)[j]? = some u → (L.flatMap cells)[i * k + j]? = some u
 | [],_,_,_,_,h,_=>by simp at h
 | b :: L,0,j,a,u,h,hu=>by
   obtain rfl:=Option.some.inj h
   have hj:=(List.getElem?_eq_some_iff.1 hu).1
   rw [List.flatMap_cons,Nat.zero_mul,Nat.zero_add,List.getElem?_append_left hj]
   exact hu
 | b :: L,i + 1,j,a,u,h,hu=>by
   rw [List.flatMap_cons,List.getElem?_append_right (by rw [hk,Nat.add_mul];omega),hk,show (i + 1) * k + j - k = i * k + j by rw [Nat.add_mul];omega]
   exact flat_at hk (by simpa using h) hu
theorem flat_inv {α:Type} {k:Nat} {cells:α → List Value} (hk:∀ a,(cells a).length = k):∀ {L:List α} {q:Nat} {u:Value},(L.flatMap cells)[q]? = some u → ∃ (i j:Nat) (a:α),q = i * k + j ∧ L[i]? = some a ∧ (cells a)[j]? = some u
 | [],_,_,h=>by simp at h
 | b :: L,q,u,h=>by
   rw [List.flatMap_cons] at h
   rcases Nat.lt_or_ge q (cells b).length with hlt | hge
   ·rw [List.getElem?_append_left hlt] at h
    exact ⟨0,q,b,by omega,rfl,h⟩
   ·rw [List.getElem?_append_right hge,hk] at h
    obtain ⟨i,j,a,e,h1,h2⟩:=flat_inv hk h
    rw [hk] at hge
    exact ⟨i + 1,j,a,by rw [Nat.add_mul];omega,by simpa using h1,h2⟩
theorem addN (b off j:Nat):(⟨b,off,none⟩:Addr).add j = ⟨b,off + j,none⟩:=by unfold Addr.add;split <;> simp_all
theorem sl_news {α:Type} {k:Nat} {cells:α → List Value} (hk:∀ a,(cells a).length = k) {B:Nat} {w:World} {ad:Addr} {L:List α} (h:IsSl k cells B w (some ad) L):∀ (q:Nat) u,(L.flatMap cells)[q]? = some u → w.cell? (ad.add q) = some u:=fun q u hu=>by
 obtain ⟨i,j,a,rfl,ha,hj⟩:=flat_inv hk hu
 obtain ⟨b,off,e,_,hc⟩:=h (fun e=>by rw [e] at ha;simp at ha)
 obtain rfl:=Option.some.inj e
 rw [addN,← Nat.add_assoc]
 exact hc i a ha j u hj
theorem own_sl {α:Type} {k:Nat} {cells:α → List Value} (hk:∀ a,(cells a).length = k) {w:World} {base n:Nat} {T:TypeId} {v:Value} {L:List α} (h:w.ownsRow base T k v n (L.flatMap cells)) (hn:n = L.length):∃ a cap,v = .slice a L.length cap ∧ IsSl k cells w.heap.size w a L ∧ (a = none → L = [] ∧ cap = 0):=by
 subst hn
 rcases h.2 with ⟨rfl,h0⟩ | ⟨g,cap,cur,rfl,_,hg,_⟩
 ·have:L = []:=List.eq_nil_of_length_eq_zero h0
  subst this
  exact ⟨none,0,rfl,isSl_nil,fun _=>⟨rfl,rfl⟩⟩
 ·refine ⟨_,cap,rfl,fun _=>⟨g,0,rfl,lt_of_heap hg,fun i a ha j u hu=>?_⟩,fun h=>by cases h⟩
  have:=h.cells (g:=g) rfl _ _ (flat_at hk ha hu)
  rw [addN,← Nat.add_assoc] at this
  exact this
theorem own_cell {α:Type} {k:Nat} {cells:α → List Value} (hk:∀ a,(cells a).length = k) {w:World} {base n g cap:Nat} {T:TypeId} {L:List α} (h:w.ownsRow base T k (.slice (some ⟨g,0,none⟩) n cap) n (L.flatMap cells)) {i j:Nat} {a:α} {u:Value} (ha:L[i]? = some a) (hu:(cells a)[j]? = some u):w.cell? ⟨g,i * k + j,none⟩ = some u:=by
 have:=h.cells (g:=g) rfl _ _ (flat_at hk ha hu)
 rw [addN,Nat.zero_add] at this
 exact this
theorem own_take {w:World} {base n g cap size:Nat} {T:TypeId} {xs:List Value} (h:w.ownsRow base T size (.slice (some ⟨g,0,none⟩) n cap) n xs) {m:Nat} (hm:m ≤ n):w.ownsRow base T size (.slice (some ⟨g,0,none⟩) m cap) m (xs.take (m * size)):=by
 obtain ⟨h1,h2 | ⟨g',cap',cur,e,hb,hg,hnc,hcm,hcs,ht⟩⟩:=h
 ·simp at h2
 ·simp only [Value.slice.injEq,Option.some.injEq,Addr.mk.injEq,and_true,true_and] at e
  obtain ⟨rfl,rfl⟩:=e
  have hle:m * size ≤ n * size:=Nat.mul_le_mul_right size hm
  refine ⟨by rw [List.length_take];omega,.inr ⟨g,cap,cur,rfl,hb,hg,by omega,hcm,hcs,?_⟩⟩
  rw [← ht,List.take_take,Nat.min_eq_left hle]
end Go.Proofs.YtbbaooeioogijaaGreatDoor
namespace Go.Proofs.YtbbaooeioogijaaGreatDoor
open Go.RowKit
def isC (c:UInt8):Ty → Bool
 | .base d=>decide (d = c)
 | _=>false
def SignP (r:Option Ty) (w:World) (e:Ending) (w':World):Prop:=
 (match r with
   | none=>e = .returned (.tuple #[.string ⟨#[]⟩,.slice none 0 0,.int .i64 2])
   | some (.fn ps r)=>∃ v,e = .returned (.tuple #[.string (tyB r),v,.int .i64 0]) ∧ w'.ownsRow w.heap.size 40 1 v ps.length (ps.map fun p=>.string (tyB p))
   | some _=>e = .returned (.tuple #[.string ⟨#[]⟩,.slice none 0 0,.int .i64 5])) ∧ Below w.heap.size w w'
theorem base_six {c:UInt8} (h:isBase c = true):c = 118 ∨ c = 99 ∨ c = 115 ∨ c = 105 ∨ c = 117 ∨ c = 106:=by
 unfold isBase at h
 rw [List.contains_iff_mem] at h
 simpa using h
def headT:Ty → UInt8
 | .base c=>c
 | .ptr _=>112
 | .arr _ _=>97
 | .str _=>83
 | .fn _ _=>102
theorem tyB_head (t:Ty):∃ h:0 < (tyB t).size,(tyB t)[0] = headT t:=by
 cases t with
 | base c=>exact tyB_get (t:=.base c) rfl
 | ptr u=>exact tyB_get (t:=.ptr u) rfl
 | arr n u=>exact tyB_get (t:=.arr n u) rfl
 | str n=>exact tyB_get (t:=.str n) rfl
 | fn ps r=>exact tyB_get (t:=.fn ps r) rfl
theorem ne_true {s:ByteArray} {h:0 < s.size} {c d:UInt8} (hc:s[0] = c) (hd:c ≠ d):((s[0].toNat:Int) != (d.toNat:Int)) = true:=by
 rw [hc,bne_iff_ne]
 intro e
 exact hd (UInt8.toNat_inj.1 (by omega))
theorem ne_false {s:ByteArray} {h:0 < s.size} {c:UInt8} (hc:s[0] = c):((s[0].toNat:Int) != (c.toNat:Int)) = false:=by rw [hc];simp
theorem eq_false' {s:ByteArray} {h:0 < s.size} {c d:UInt8} (hc:s[0] = c) (hd:c ≠ d):((s[0].toNat:Int) == (d.toNat:Int)) = false:=by
 rw [hc,beq_eq_false_iff_ne]
 intro e
 exact hd (UInt8.toNat_inj.1 (by omega))
theorem eq_true' {s:ByteArray} {h:0 < s.size} {c:UInt8} (hc:s[0] = c):((s[0].toNat:Int) == (c.toNat:Int)) = true:=by rw [hc];simp
end Go.Proofs.YtbbaooeioogijaaGreatDoor
namespace Go.Proofs.YtbbaooeioogijaaGreatDoor
open Go.RowKit
theorem add_namedT (a b y:ByteArray) (hy:a ++ b = y) (h:a.size + b.size ≤ 9223372036854775807):∀ w,(Op.stringOp .add a b).run Tryz.prog w = .ok (.string y) w:=fun w=>by rw [← hy];exact run_string_add_sum w a b h
theorem one_is {t:Ty} (h:Right t) (c:UInt8):((tyB t).toList == [c]) = isC c t:=by
 rw [str_one,Bool.eq_iff_iff,decide_eq_true_iff,one_base h]
 cases t <;> simp [isC]
end Go.Proofs.YtbbaooeioogijaaGreatDoor
namespace Go.Proofs.YtbbaooeioogijaaGreatDoor
open Go.RowKit
def strB (l:List UInt8):ByteArray:=⟨l.toArray⟩
theorem strB_list (l:List UInt8):(strB l).data.toList = l:=by simp [strB]
theorem strB_size (l:List UInt8):(strB l).size = l.length:=by simp [strB,ByteArray.size]
theorem strB_eq {x:ByteArray} {l:List UInt8} (h:x.data.toList = l):x = strB l:=toList_eq (by rw [h,strB_list])
end Go.Proofs.YtbbaooeioogijaaGreatDoor
namespace Go.Proofs.YtbbaooeioogijaaGreatDoor
open Go.RowKit
theorem head_fn {t:Ty} (h:Right t):(((headT t).toNat:Int) == 102) = isFnT t:=by
 cases t with
 | base c=>rcases base_six h with rfl | rfl | rfl | rfl | rfl | rfl <;> rfl
 | _=>rfl
end Go.Proofs.YtbbaooeioogijaaGreatDoor
namespace Go.Proofs.YtbbaooeioogijaaGreatDoor
open Go.RowKit
theorem own_formT {w:World} {base:Nat} {e:TypeId} {size:Nat} {v:Value} {n:Nat} {xs:List Value} (h:w.ownsRow base e size v n xs):∃ a cap,v = .slice a n cap ∧ (0 < n → ∃ g,a = some ⟨g,0,none⟩ ∧ base ≤ g ∧ g < w.heap.size ∧ ∀ j u,xs[j]? = some u → w.cell? ⟨g,j,none⟩ = some u):=by
 rcases h.2 with ⟨rfl,rfl⟩ | ⟨g,cap,cur,rfl,hb,hg,_⟩
 ·exact ⟨_,_,rfl,fun h=>by omega⟩
 ·refine ⟨_,_,rfl,fun _=>⟨g,rfl,hb,lt_of_heap hg,fun j u hj=>?_⟩⟩
  have:=h.cells (g:=g) rfl j u hj
  rwa [addr_add] at this
theorem codes_mem':∀ {l:List Ty} {t:Ty},t ∈ l → (code t).length ≤ (codes l).length
 | [],_,h=>by cases h
 | u :: [],t,h=>by
   rcases List.mem_cons.1 h with rfl | e
   ·rw [codes];simp
   ·cases e
 | u :: v :: l,t,h=>by
   rw [codes_cons,codes'_cons]
   rcases List.mem_cons.1 h with rfl | e
   ·simp
   ·have:=codes_mem' e
    simp;omega
end Go.Proofs.YtbbaooeioogijaaGreatDoor
namespace Go.Proofs.YtbbaooeioogijaaGreatDoor
open Go.RowKit
def ShapeC (t:Ty):Prop:=∀ w,TE w → Calls Tryz.prog 131 #[.string (tyB t)] w fun e w'=>e = .returned (.bool (shapeT t)) ∧ Below w.heap.size w w'
theorem tyS_tyB {t:Ty} (hr:Right t) (hl:(code t).length ≤ 65536):tyS (tyB t) = some t:=tyS_some.2 ⟨rfl,hr,hl⟩
theorem isScal_is (r:Bool) {t:Ty} (w:World) (hE:TE w) (hr:Right t) (hl:(code t).length ≤ 65536) (h:isScalarT t = r):Calls Tryz.prog 144 #[.string (tyB t)] w fun e w'=>e = .returned (.bool r) ∧ Below w.heap.size w w':=by
 have:=isScalar_ok (tyB t) w hE
 rw [show isScalS (tyB t) = isScalarT t by unfold isScalS;rw [tyS_tyB hr hl];rfl,h] at this
 exact this
theorem shape_clo (p:Ty) (w:World) (hE:TE w) (hr:Right p) (hl:(code p).length ≤ 65536) (ih:ShapeC p) :
 Calls Tryz.prog 146 #[.string (tyB p)] w fun e w'=>e = .returned (.bool (!(isScalarT p && shapeT p))) ∧ Below w.heap.size w w':=by
 have HE:=Hd hE
 unfold ShapeC at ih
 have HI:=Hd ih
 rcases hs:isScalarT p with _ | _
 ·have H:=Hd (isScal_is false w hE hr hl hs)
  clear hs hE ih
  go_enter Tryz.func146,Tryz.ntmps146
  go_wp2_with (go_at_call 144;(with_reducible refine H.out.mono ?_);rintro e w1 ⟨rfl,hb1⟩)
  go_ret
  exact ⟨rfl,hb1⟩
 ·have H:=Hd (isScal_is true w hE hr hl hs)
  clear hs hE ih
  generalize hsh:shapeT p = b at *
  have HSh:=Hd hsh
  clear hsh
  go_enter Tryz.func146,Tryz.ntmps146
  go_wp2_with (go_at_call 144;(with_reducible refine H.out.mono ?_))
  rintro e w1 ⟨rfl,hb1⟩
  go_wp2_with (go_at_call 131;(with_reducible refine (HI.out _ (HE.out.below hb1)).mono ?_))
  rintro e w2 ⟨rfl,hb2⟩
  go_wp2_with fail
  go_ret
  exact ⟨by simp,hb1.trans (hb2.mono hb1.size)⟩
theorem shapes_all (l:List Ty):shapesT l = l.all fun p=>isScalarT p && shapeT p:=by
 induction l with
 | nil=>rfl
 | cons t l ih=>rw [shapesT,ih];rfl
set_option maxHeartbeats 2000000 in
theorem shape_idx (ps:List Ty) (g cap:Nat) (w:World) (hE:TE w) (hg:g < w.heap.size) (hr:Rights ps) (hl:∀ p ∈ ps,(code p).length ≤ 65536) (ih:∀ p ∈ ps,ShapeC p) (hn:ps.length ≤ 65536)
 (hc:∀ j (hj:j < ps.length),w.cell? ⟨g,j,none⟩ = some (.string (tyB ps[j]))) :
 Calls Tryz.prog 154 #[.slice (some ⟨g,0,none⟩) ps.length cap,.func (.func 146) #[] #[]] w fun e w'=>∃ o:Int,e = .returned (.int .i64 o) ∧ decide (0 ≤ o) = !shapesT ps ∧ Below w.heap.size w w':=by
 have HE:=Hd hE
 have HC:=Hd hc
 have HI:=Hd ih
 have HL:=Hd hl
 have HR:=Hd hr
 clear hE hc ih hl hr
 go_enter Tryz.func154,Tryz.ntmps154
 go_wp2_with fail
 go_loopw [8] (fun i wr=>∃ k:Nat,k ≤ ps.length ∧ i = .int .i64 k ∧ Hid (∀ j (hj:j < ps.length),j < k → (isScalarT ps[j] && shapeT ps[j]) = true) ∧ Below w.heap.size w wr) (fun i _=>ps.length - (intOf i).toNat)
 case atStart=>exact ⟨0,Nat.zero_le _,rfl,fun j _ h=>by omega,Below.refl _ _⟩
 case round=>
  obtain ⟨k,hk,rfl,hno,hb⟩:=hrel
  have HB:=Hd hb
  have hsz:=hb.size
  by_cases hlt:k < ps.length
  ·have hck:wr.cell? ⟨g,k,none⟩ = some (.string (tyB ps[k])):=by
    rw [hb.cell (p:=⟨g,k,none⟩) hg];exact HC.out k hlt
   have hm:ps[k] ∈ ps:=List.getElem_mem hlt
   have HD:=Hd (shape_clo ps[k] wr (HE.out.below hb) (by
    obtain ⟨a,b,e⟩:=List.append_of_mem hm
    have h:=HR.out
    rw [e] at h
    exact rights_at h) (HL.out _ hm) (HI.out _ hm))
   clear hb hm
   rcases hgd:(isScalarT ps[k] && shapeT ps[k]) with _ | _
   ·have hfin:=Hd (show shapesT ps = false by
     rw [shapes_all,Bool.eq_false_iff];intro e
     have:=List.all_eq_true.1 e ps[k] (List.getElem_mem hlt)
     rw [hgd] at this;cases this)
    rw [hgd] at HD
    generalize tyB ps[k] = st at *
    clear hgd
    go_wp2_with (go_at_call 146;(with_reducible refine HD.out.mono ?_))
    rintro e w2 ⟨rfl,hb2⟩
    go_wp2_with fail
    go_ret
    exact ⟨_,rfl,by rw [hfin.out];simp,HB.out.trans (hb2.mono hsz)⟩
   ·have HN:=Hd (show ∀ j (hj:j < ps.length),j < k + 1 → (isScalarT ps[j] && shapeT ps[j]) = true from fun j hj h=>by
     rcases Nat.lt_or_ge j k with h' | h'
     ·exact hno.out j hj h'
     ·obtain rfl:j = k:=by omega
      exact hgd)
    rw [hgd] at HD
    generalize tyB ps[k] = st at *
    clear hgd
    go_wp2_with (go_at_call 146;(with_reducible refine HD.out.mono ?_))
    rintro e w2 ⟨rfl,hb2⟩
    have HB2:=Hd (HB.out.trans (hb2.mono hsz))
    clear hb2
    go_wp2_with fail
    go_roundw
    case rel=>exact ⟨k + 1,by omega,by go_num,HN,HB2.out⟩
    case measure=>simp [intOf];omega
  ·obtain rfl:k = ps.length:=by omega
   have hfin:=Hd (show shapesT ps = true by
    rw [shapes_all,List.all_eq_true]
    intro p hp
    obtain ⟨j,hj,rfl⟩:=List.getElem_of_mem hp
    exact hno.out j hj hj)
   clear hno hb
   go_wp2_with fail
   go_ret
   exact ⟨-1,rfl,by rw [hfin.out];rfl,HB.out⟩
theorem idx_empty (a:Option Addr) (cap:Nat) (f:Value) (w:World):Calls Tryz.prog 154 #[.slice a 0 cap,f] w fun e w'=>e = .returned (.int .i64 (-1)) ∧ w' = w:=by
 go_enter Tryz.func154,Tryz.ntmps154
 go_wp2_with fail
 go_loop [8] (fun i=>i = .int .i64 0) (fun _=>0)
 case atStart=>rfl
 case round=>
  obtain rfl:=hrel
  go_wp2_with fail
  go_ret
  exact ⟨rfl,rfl⟩
theorem shape_has (ps:List Ty) (v:Value) (n:Nat) (B:Nat) (w:World) (hE:TE w) (hB:w.ownsRow B 40 1 v n (ps.map fun p=>.string (tyB p))) (hn:n = ps.length) (hr:Rights ps) (hl:∀ p ∈ ps,(code p).length ≤ 65536) (ih:∀ p ∈ ps,ShapeC p) (hnl:ps.length ≤ 65536) :
 Calls Tryz.prog 145 #[v,.func (.func 146) #[] #[]] w fun e w'=>e = .returned (.bool (!shapesT ps)) ∧ Below w.heap.size w w':=by
 obtain ⟨a,cap,rfl,hrow⟩:=own_formT hB
 subst hn
 by_cases h0:ps = []
 ·subst h0
  clear hE hB hr hl ih hrow hnl
  go_enter Tryz.func145,Tryz.ntmps145
  go_wp2_with (go_at_call 154;(with_reducible refine (idx_empty _ _ _ _).mono ?_);rintro e w1 ⟨rfl,rfl⟩)
  go_ret
  exact ⟨rfl,Below.refl _ _⟩
 ·obtain ⟨g,rfl,hg1,hg2,hc⟩:=hrow (List.length_pos_iff.2 h0)
  have H:=Hd (shape_idx ps g cap w hE hg2 hr hl ih hnl (fun j hj=>hc j _ (by rw [List.getElem?_map,List.getElem?_eq_getElem hj];rfl)))
  clear hE hB hr hl ih hrow hc
  go_enter Tryz.func145,Tryz.ntmps145
  go_wp2_with (go_at_call 154;(with_reducible refine H.out.mono ?_);rintro e w1 ⟨o,rfl,ho,hb1⟩;have HO:=Hd ho;clear ho)
  go_ret
  exact ⟨by rw [← HO.out];rfl,hb1⟩
end Go.Proofs.YtbbaooeioogijaaGreatDoor
