/- What is wrong with a unit -/
import Derived.Test.YtkokdafkjjcgoaaGreatDoorMg23
import Derived.RangeFuncNested
import Derived.RangeFuncBound
import Derived.RangeFuncCalls
import Derived.RangeFuncLeaves
import Derived.Shelf.Abstract
import Derived.OwnWalkIn
import Derived.TacticsInMore
import Derived.LoopNIn
import Derived.LoopIn
namespace Go.Proofs.YtkokdafkjjcgoaaGreatDoor
theorem there_nil {K:List Kn}:∀ t:Ty,thereT [] t = true → thereT K t = true ∧ measT K t = measT [] t
 | .base _,_=>⟨rfl,rfl⟩
 | .ptr _,_=>⟨rfl,rfl⟩
 | .arr n t,h=>by
   obtain ⟨h1,h2⟩:=there_nil (K:=K) t h
   exact ⟨h1,by rw [measT,measT,h2]⟩
 | .str s,h=>by simp [thereT,findK] at h
 | .fn _ _,_=>⟨rfl,rfl⟩
mutual
theorem sized_nil {K:List Kn}:∀ t:Ty,sizedT K t = true → sizedT [] t = true
 | .base _,_=>rfl
 | .ptr t,h=>sized_nil t h
 | .arr n t,h=>by
   rw [sizedT,Bool.and_eq_true] at h ⊢
   refine ⟨sized_nil t h.1,?_⟩
   rcases ht:thereT [] t with _ | _
   ·rfl
   ·obtain ⟨h1,h2⟩:=there_nil (K:=K) t ht
    have:=h.2
    rw [h1,h2] at this
    simpa using this
 | .str _,_=>rfl
 | .fn ps r,h=>by
   rw [sizedT,Bool.and_eq_true] at h ⊢
   exact ⟨sized_nil r h.1,sizeds_nil ps h.2⟩
theorem sizeds_nil {K:List Kn}:∀ l:List Ty,sizedsT K l = true → sizedsT [] l = true
 | [],_=>rfl
 | t :: l,h=>by
   rw [sizedsT,Bool.and_eq_true] at h ⊢
   exact ⟨sized_nil t h.1,sizeds_nil l h.2⟩
end
theorem checkT_typed {K:List Kn} {t:Ty} (h:checkT K t = 0):checkT [] t = 0 ∨ checkT [] t = 4:=by
 unfold checkT at h ⊢
 split at h
 ·cases h
 rename_i h1
 split at h
 ·cases h
 rename_i h2
 split at h
 ·cases h
 split at h
 ·cases h
 rename_i h4
 rw [if_neg h1,if_neg h2]
 rcases hth:thereT [] t with _ | _
 ·exact .inr rfl
 ·have:=sized_nil (K:=K) t (by simpa using h4)
  exact .inl (by simp [this])
theorem checkS_typed {K:List Kn} {s:ByteArray} (h:checkS K s = 0):typedS s = true:=by
 have key:checkS [] s = 0 ∨ checkS [] s = 4:=by
  unfold checkS at h ⊢
  rcases ht:tyS s with _ | t
  ·rw [ht] at h;cases h
  ·rw [ht] at h
   exact checkT_typed h
 unfold typedS
 exact decide_eq_true key
theorem checkN_typed {L:List Sr} {s:ByteArray} (h:checkN L s = 0):typedS s = true:=by
 unfold checkN at h
 split at h
 ·rename_i h1;exact absurd h (learnK_ne h1)
 ·exact checkS_typed h
def firstE {α:Type} (f:α → Int):List α → Nat → Option (Int × Int)
 | [],_=>none
 | x :: r,i=>if f x ≠ 0 then some ((i:Int),f x) else firstE f r (i + 1)
theorem firstE_skip {α:Type} {f:α → Int}:∀ {L:List α} {k:Nat} (n:Nat),(∀ (j:Nat) (h:j < L.length),j < k → f L[j] = 0) → firstE f L n = firstE f (L.drop k) (n + k)
 | L,0,n,_=>by rw [List.drop_zero,Nat.add_zero]
 | [],k + 1,n,_=>by simp [firstE]
 | x :: r,k + 1,n,h=>by
   rw [firstE,if_neg (by have:=h 0 (by simp) (by omega);simpa using this),List.drop_succ_cons,firstE_skip (k:=k) (n + 1) (fun j hj hjk=>by have:=h (j + 1) (by simpa using hj) (by omega);simpa using this)]
   congr 1
   omega
theorem firstE_none {α:Type} {f:α → Int} {L:List α} (h:∀ (j:Nat) (hj:j < L.length),j < L.length → f L[j] = 0):firstE f L 0 = none:=by
 rw [firstE_skip (k:=L.length) 0 h,List.drop_length]
 rfl
theorem firstE_some {α:Type} {f:α → Int} {L:List α} {i:Nat} (hi:i < L.length) (h:∀ (j:Nat) (hj:j < L.length),j < i → f L[j] = 0) (hf:f L[i] ≠ 0):firstE f L 0 = some ((i:Int),f L[i]):=by
 rw [firstE_skip (k:=i) 0 h,List.drop_eq_getElem_cons hi,firstE,if_pos hf,Nat.zero_add]
def itemE (T:List Nd):Int:=if checkN9 T ≠ 0 then checkN9 T else if exprK (kindAt T (T.length - 1)) = false then 90 else 0
def codeE:Option (Int × Int) → Int
 | none=>0
 | some p=>p.2
def headG (L:List Sr) (g:GlU):Bool:=isNameB g.var.name && (decide (0 ≤ g.at_ ∧ g.at_ ≤ 65536) && (decide (checkN L g.var.type = 0) && objectS g.var.type))
def globE (L:List Sr) (g:GlU):Int:=if headG L g = false then 90 else if 4096 < g.init.length then 3 else codeE (firstE itemE g.init 0)
def parmE (body:Bool) (q:VrU × Ty):Int:=if q.1.type = tyB q.2 ∧ (isNameB q.1.name = true ∨ (q.1.name = ⟨#[]⟩ ∧ body = false)) ∧ (body = true ∨ q.1.vol = false) then 0 else 90
def headF (L:List Sr) (f:FnU):Bool:=isNameB f.name && (decide (0 ≤ f.at_ ∧ f.at_ ≤ 65536) && decide (checkN L f.type = 0))
def bodyE (T:List Nd):Int:=if T = [] then 0 else if checkN9 T ≠ 0 then checkN9 T else if kindAt T (T.length - 1) ≠ 21 then 90 else 0
def funcE (L:List Sr) (f:FnU):Int:=match tyS f.type with
 | some (.fn ps _)=>if headF L f = false ∨ ps.length ≠ f.params.length then 90 else if codeE (firstE (parmE (decide (f.body ≠ []))) (f.params.zip ps) 0) ≠ 0 then 90 else bodyE f.body
 | _=>90
def unitE (u:UnU):Int × Int:=
 if 64 < u.structs.length ∨ 256 < u.globals.length ∨ 256 < u.funcs.length then (0,3)
 else if (faultN u.structs).2 ≠ 0 then faultN u.structs
 else match firstE (globE u.structs) u.globals 0 with
  | some p=>p
  | none=>match firstE (funcE u.structs) u.funcs 0 with
    | some p=>p
    | none=>(0,0)
def startE (fr:List Nat):Nat → Nat → Nat
 | 0,e=>e
 | n + 1,e=>startE fr n (fr.getD (e - 1) 0)
theorem Ends.start {fr:List Nat}:∀ {st:List Nat} {e n:Nat},Ends fr st e → n ≤ st.length → startE fr n e = if 0 < n then st.getD (n - 1) 0 else e
 | _,_,0,_,_=>rfl
 | [],_,n + 1,_,h=>by simp at h
 | s :: st,e,n + 1,⟨_,h2,h3⟩,h=>by
   rw [startE,h2,Ends.start h3 (by simpa using h),if_pos (Nat.succ_pos n)]
   cases n with
   | zero=>rfl
   | succ n=>rw [if_pos (Nat.succ_pos n),Nat.add_sub_cancel,Nat.add_sub_cancel];rfl
theorem begins_start:∀ (l:List Nd) (pre:List Nat) (st:List Nat) {f st':List Nat},beginsF l pre.length st = some (f,st') → Ends pre st pre.length →
 ∀ (j:Nat) x,l[j]? = some x → startE (pre ++ f) x.n.toNat (pre.length + j) = (pre ++ f).getD (pre.length + j) 0
 | [],_,_,_,_,_,_=>fun j x hx=>by simp at hx
 | x :: l,pre,st,f,st',h,he=>by
   have hfull:=begins_back (x :: l) pre st h he
   rw [beginsF] at h
   split at h
   ·cases h
   ·rename_i hn
    simp only [Option.map_eq_some_iff] at h
    obtain ⟨⟨g,st2⟩,hg,e⟩:=h
    obtain ⟨rfl,rfl⟩:=Prod.mk.inj e
    simp only at hg ⊢
    generalize ha:(if 0 < x.n then st.getD (x.n.toNat - 1) 0 else pre.length) = a at *
    have hle:x.n.toNat ≤ st.length:=by omega
    have ha1:a ≤ pre.length:=by
     rw [← ha]
     split
     ·exact Nat.le_of_lt (he.lt _ (by omega))
     ·exact Nat.le_refl _
    have he2:Ends (pre ++ [a]) (a :: st.drop x.n.toNat) (pre ++ [a]).length:=by
     refine ⟨by simp;omega,by simp,?_⟩
     by_cases h0:0 < x.n
     ·rw [if_pos h0] at ha
      rw [← ha]
      exact (he.drop x.n.toNat (by omega) hle).app (by rw [ha];exact ha1)
     ·rw [if_neg h0] at ha
      have:x.n.toNat = 0:=by omega
      rw [this,← ha]
      simpa using he.app (Nat.le_refl _)
    have hl1:(pre ++ [a]).length = pre.length + 1:=by simp
    have h3:=begins_start l (pre ++ [a]) _ (by rw [hl1];exact hg) he2
    have hap:pre ++ [a] ++ g = pre ++ a :: g:=by simp
    rw [hap,hl1] at h3
    intro j y hy
    cases j with
    | zero=>
      obtain rfl:=Option.some.inj hy
      have h4:=(he.app (g:=a :: g) (Nat.le_refl _)).start (n:=x.n.toNat) hle
      rw [Nat.add_zero,h4]
      have h5:(pre ++ a :: g).getD pre.length 0 = a:=by rw [List.getD_eq_getElem?_getD,List.getElem?_append_right (Nat.le_refl _),Nat.sub_self];rfl
      rw [h5,← ha]
      by_cases h0:0 < x.n
      ·rw [if_pos (by omega),if_pos h0]
      ·rw [if_neg (by omega),if_neg h0]
    | succ j=>
      have:=h3 j y (by simpa using hy)
      rw [show pre.length + (j + 1) = pre.length + 1 + j by omega]
      exact this
theorem start_of {t:List Nd} {fr:List Nat} (h:beginsN t = some fr) {j:Nat} {x:Nd} (hx:t[j]? = some x):startE fr x.n.toNat j = fr.getD j 0:=by
 unfold beginsN at h
 split at h
 ·rename_i f s hb
  obtain rfl:=Option.some.inj h
  have:=begins_start t [] [] hb trivial j x hx
  simpa using this
 ·cases h
theorem back_sum {fr:List Nat}:∀ {n e:Nat},Back fr n e → startE fr n e ≤ e ∧ ((partsE fr n e).map fun p=>p + 1 - fr.getD p 0).sum = e - startE fr n e
 | 0,e,_=>⟨Nat.le_refl _,by simp [partsE,startE]⟩
 | n + 1,e,⟨h1,h2,h3⟩=>by
   obtain ⟨a,b⟩:=back_sum h3
   refine ⟨by rw [startE];omega,?_⟩
   rw [partsE,List.map_append,List.sum_append,b,startE]
   simp only [List.map_cons,List.map_nil,List.sum_cons,List.sum_nil]
   omega
theorem flatMap_same {α β:Type} {f g:α → List β}:∀ {l:List α},(∀ x ∈ l,f x = g x) → l.flatMap f = l.flatMap g
 | [],_=>rfl
 | x :: l,h=>by rw [List.flatMap_cons,List.flatMap_cons,h x (List.mem_cons_self ..),flatMap_same fun y hy=>h y (List.mem_cons_of_mem _ hy)]
end Go.Proofs.YtkokdafkjjcgoaaGreatDoor
namespace Go.Proofs.YtkokdafkjjcgoaaGreatDoor
open Go.RowKit
theorem NdRow.opened {w:World} {base:Nat} {v:Value} {L:List Nd} (h:NdRow w base v L):∃ a cap,v = .slice a L.length cap ∧ L.length ≤ cap ∧ cap ≤ maxLen ∧ IsNds w.heap.size w a L ∧ (a = none → L = [] ∧ cap = 0):=by
 obtain ⟨a,cap,hv,hN,hn⟩:=own_sl nd_len h rfl
 refine ⟨a,cap,hv,?_,?_,hN,hn⟩
 ·rcases h.2 with ⟨e,h0⟩ | ⟨g,c,cur,e,_,_,h1,_⟩
  ·omega
  ·rw [hv] at e;simp only [Value.slice.injEq] at e;omega
 ·rcases h.2 with ⟨e,h0⟩ | ⟨g,c,cur,e,_,_,_,h1,_⟩
  ·rw [hv] at e;simp only [Value.slice.injEq] at e;rw [e.2.2];exact Nat.zero_le _
  ·rw [hv] at e;simp only [Value.slice.injEq] at e;rw [e.2.2];exact h1
theorem NdRow.far {w:World} {base:Nat} {v:Value} {L:List Nd} (h:NdRow w base v L):∀ (g off n cap:Nat),v = .slice (some ⟨g,off,none⟩) n cap → base ≤ g:=fun g off n cap hv=>by
 subst hv
 exact (World.ownsRow.lt h g rfl).1
section
variable (a:Option Addr) (cap:Nat) (t:List Nd) (w:World) (hE:TE w) (hI:IsNds w.heap.size w a t) (hOk:∀ x ∈ t,NdOk x) (hz:t.length * 64 ≤ 140737488351232) (hnil:a = none → t = [] ∧ cap = 0)
include hE hI hOk hz hnil
end
end Go.Proofs.YtkokdafkjjcgoaaGreatDoor
namespace Go.Proofs.YtkokdafkjjcgoaaGreatDoor
open Go.RowKit Go.Shelf
attribute [local go_sem] Oper.semAt_some
def rowB (bn:Nat) (W:World):Option Nat:=(W.cell? ⟨bn,0,none⟩).bind Value.ownBlock
def RowOk (bn:Nat) (W:World):Prop:=(W.cell? ⟨bn,0,none⟩).isSome = true ∧ ∀ g,rowB bn W = some g → bn < g ∧ g < W.heap.size
structure KeepR (bn:Nat) (W W':World):Prop where
 os:W'.os = W.os
 tape:W'.tape = W.tape
 output:W'.output = W.output
 size:W.heap.size ≤ W'.heap.size
 rest:RowOk bn W → RowOk bn W' ∧ (∀ (k:Nat) (o:Obj),k ≠ bn → rowB bn W ≠ some k → W.heap[k]? = some o → o.isCells = true → W'.heap[k]? = some o) ∧ ∀ g,rowB bn W' = some g → rowB bn W = some g ∨ W.heap.size ≤ g
theorem KeepR.refl (bn:Nat) (W:World):KeepR bn W W:=⟨rfl,rfl,rfl,Nat.le_refl _,fun h=>⟨h,fun _ _ _ _ h _=>h,fun _ h=>.inl h⟩⟩
theorem KeepR.trans {bn:Nat} {A B C:World} (h:KeepR bn A B) (k:KeepR bn B C):KeepR bn A C:=
 ⟨k.os.trans h.os,k.tape.trans h.tape,k.output.trans h.output,Nat.le_trans h.size k.size,fun hA=>by
   obtain ⟨hB,b1,b2⟩:=h.rest hA
   obtain ⟨hC,c1,c2⟩:=k.rest hB
   refine ⟨hC,fun i o hi hr ho hc=>c1 i o hi (fun e=>?_) (b1 i o hi hr ho hc) hc,fun g e=>?_⟩
   ·rcases b2 i e with e | e
    ·exact hr e
    ·have:=lt_of_heap ho;omega
   ·rcases c2 g e with e | e
    ·exact b2 g e
    ·exact .inr (Nat.le_trans h.size e)⟩
theorem rowB_below {bn:Nat} {W W':World} (h:Below W.heap.size W W') (hb:bn < W.heap.size):rowB bn W' = rowB bn W:=by unfold rowB;rw [h.cell hb]
theorem RowOk.below {bn:Nat} {W W':World} (h:RowOk bn W) (hb:Below W.heap.size W W') (hbn:bn < W.heap.size):RowOk bn W':=
 ⟨by rw [hb.cell hbn];exact h.1,fun g e=>by rw [rowB_below hb hbn] at e;exact ⟨(h.2 g e).1,Nat.lt_of_lt_of_le (h.2 g e).2 hb.size⟩⟩
theorem KeepR.of_below {bn:Nat} {W W':World} (h:Below W.heap.size W W') (hbn:bn < W.heap.size):KeepR bn W W':=
 ⟨h.os,h.tape,h.output,h.size,fun hr=>⟨hr.below h hbn,fun k _ _ _ ho _=>(h.block k (lt_of_heap ho)).trans ho,fun g e=>.inl (by rw [← rowB_below h hbn];exact e)⟩⟩
theorem KeepR.cell {bn:Nat} {W W':World} (h:KeepR bn W W') (hr:RowOk bn W) {p:Addr} {v:Value} (hp:p.block ≠ bn) (hg:rowB bn W ≠ some p.block) (hc:W.cell? p = some v):W'.cell? p = some v:=by
 unfold World.cell? at hc ⊢
 split at hc
 ·rename_i cs T fz hb
  rw [(h.rest hr).2.1 _ _ hp hg hb rfl]
  exact hc
 ·cases hc
theorem KeepR.sl {α:Type} {kk:Nat} {cells:α → List Value} {bn B:Nat} {W W':World} (h:KeepR bn W W') (hr:RowOk bn W) {a:Option Addr} {L:List α} (hs:IsSl kk cells B W a L) (hB:B ≤ bn):IsSl kk cells B W' a L:=fun hn=>by
 obtain ⟨b,off,ha,hlt,hc⟩:=hs hn
 exact ⟨b,off,ha,hlt,fun i x hx j u hu=>h.cell hr (by show b ≠ bn;omega) (fun e=>by have:=(hr.2 _ e).1;simp only at this;omega) (hc i x hx j u hu)⟩
end Go.Proofs.YtkokdafkjjcgoaaGreatDoor
namespace Go.Proofs.YtkokdafkjjcgoaaGreatDoor
open Go.RowKit
theorem TokRow.moved {w w':World} {g off:Nat} {L:List Tok} (h:TokRow w g off L) (he:w'.heap[g]? = w.heap[g]?):TokRow w' g off L:=fun i t ht=>by
 obtain ⟨h0,h1,h2,h3⟩:=h i t ht
 have key:∀ o,w'.cell? ⟨g,o,none⟩ = w.cell? ⟨g,o,none⟩:=fun o=>by unfold World.cell?;rw [he]
 rw [key,key,key,key]
 exact ⟨h0,h1,h2,h3⟩
theorem TokRow.drop {w:World} {g:Nat} {L:List Tok} (h:TokRow w g 0 L) (i:Nat):TokRow w g (i * 4) (L.drop i):=fun j t ht=>by
 rw [List.getElem?_drop] at ht
 have:=h (i + j) t ht
 rw [Nat.zero_add,Nat.add_mul] at this
 exact this
theorem TokRow.take {w:World} {g:Nat} {L:List Tok} (h:TokRow w g 0 L) (i:Nat):TokRow w g 0 (L.take i):=fun j t ht=>by
 rw [List.getElem?_take] at ht
 split at ht
 ·exact h j t ht
 ·cases ht
theorem tokE_good {s:ByteArray} {L:List Tok} (h:tokE s = .good L):s.size ≤ 65536 ∧ tokL 0 s.data.toList [] = .good L ∧ (L.map (·.place)).Pairwise (· < ·) ∧ (∀ x ∈ L.map (·.place),(0:Int) ≤ x ∧ x < s.size):=by
 have hs:s.size ≤ 65536:=by
  unfold tokE at h
  split at h
  ·cases h
  ·omega
 rw [tokE_L hs] at h
 obtain ⟨h1,h2⟩:=tokL_rise _ _ _ _ h (by simp) (by simp)
 refine ⟨hs,h,h1,fun x hx=>?_⟩
 have:=h2 x hx
 rw [size_pos_toList] at this
 simpa using this
theorem tokL_len:∀ k M out L,tokL k M out = .good L → out.length ≤ 16384 → L.length ≤ 16384:=by
 have key:=tokL_ind (P:=fun _ _ out e=>∀ L,e = .good L → out.length ≤ 16384 → L.length ≤ 16384) ?_ ?_
 ·exact fun k M out L h=>key k M out L h
 ·intro k M out e h L he ho
  subst he
  obtain ⟨_,_,_,rfl⟩:=step_good h
  exact ho
 ·intro k M out n out' h ih L he ho
  obtain ⟨b,t',j,_,_,h2,_,_,hp,_⟩:=step_more h
  refine ih L he ?_
  rcases hj:joins (M.drop b) out with _ | _
  ·rw [put_new hj] at hp
   rw [hp,List.length_append]
   have:¬ 16384 ≤ out.length:=fun e=>h2 ⟨hj,e⟩
   simp;omega
  ·obtain ⟨q,t0,rfl⟩:=snoc_of (joins_ne hj)
   rw [put_joins hj,glue_snoc] at hp
   rw [hp];simp at ho ⊢;exact ho
theorem isName_parts {x:ByteArray} (h:isNameB x = true):0 < x.size ∧ x.size ≤ 31 ∧ (∃ c l,x.data.toList = c :: l ∧ letB c = true) ∧ wlen x.data.toList = x.data.toList.length ∧ isKeyB x = false:=by
 unfold isNameB at h
 simp only [Bool.and_eq_true,decide_eq_true_eq,Bool.not_eq_true'] at h
 obtain ⟨h1,h2,h3,h4,h5⟩:=h
 refine ⟨h1,h2,?_,by rw [h4,Array.length_toList];rfl,h5⟩
 rcases hx:x.data.toList with _ | ⟨c,l⟩
 ·rw [hx] at h3;simp at h3
 ·rw [hx] at h3;exact ⟨c,l,rfl,by simpa using h3⟩
def body:List (Tok × List UInt8) → List UInt8
 | []=>[]
 | (t,b) :: r=>wordL t ++ (b ++ body r)
def NoAdj:List Tok → Prop
 | []=>True
 | [_]=>True
 | a :: b :: l=>¬ (isStr a = true ∧ isStr b = true) ∧ NoAdj (b :: l)
theorem good_size {t:Tok} (h:goodB t = true):t.text.size ≤ 4096:=by
 unfold goodB at h
 split at h
 ·unfold goodNum at h
  split at h
  ·rename_i hu;rw [hu];decide
  ·rw [Bool.and_eq_true,decide_eq_true_eq] at h
   rw [h.1];decide
 ·split at h
  ·cases h
  ·split at h
   ·have:=(isName_parts h).2.1;omega
   ·split at h
    ·have key:∀ x ∈ keyT,x.size ≤ 4096:=by decide
     exact key _ ((Lib.containsS_iff _ _).1 h)
    ·split at h
     ·exact of_decide_eq_true h
     ·split at h
      ·have key:∀ x ∈ markT,x.size ≤ 4096:=by decide
       exact key _ ((Lib.containsS_iff _ _).1 h)
      ·cases h
theorem let_word {c:UInt8} (h:letB c = true ∨ digB c = true):spB c = false ∧ c.toNat ≠ 34 ∧ c.toNat ≠ 47:=by
 unfold spB
 rw [decide_eq_false_iff_not]
 rcases h with h | h
 ·have:=of_decide_eq_true h;omega
 ·have:=of_decide_eq_true h;omega
theorem noAdj_kind:∀ {l l':List Tok},l.map isStr = l'.map isStr → NoAdj l → NoAdj l'
 | [],[],_,_=>trivial
 | [_],[_],_,_=>trivial
 | _ :: b :: l,_ :: b' :: l',h,hn=>by
   simp only [List.map_cons,List.cons.injEq] at h
   exact ⟨by rw [← h.1,← h.2.1];exact hn.1,noAdj_kind (l:=b :: l) (l':=b' :: l') (by simp [h.2.1,h.2.2]) hn.2⟩
 | [],_ :: _,h,_=>by simp at h
 | _ :: _,[],h,_=>by simp at h
 | [_],_ :: _ :: _,h,_=>by simp at h
 | _ :: _ :: _,[_],h,_=>by simp at h
theorem one_good {L:List UInt8} {t:Tok} {n:Nat} (h:oneL L = .good t n):(t.kind = 4 ∧ t.num = 0 ∧ L.head?.any (fun c=>decide (c.toNat = 34)) = true) ∨ (goodB t = true ∧ isStr t = false ∧ L.head?.any (fun c=>decide (c.toNat = 34)) = false):=by
 match L,h with
 | [],h=>cases h
 | c :: l,h=>
   rw [oneL] at h
   by_cases h1:letB c = true
   ·rw [if_pos h1] at h
    have hh:((c :: l).head?.any fun c=>decide (c.toNat = 34)) = false:=by simpa using (let_word (.inl h1)).2.1
    unfold wordE at h
    split at h
    ·rename_i hk
     have e:=(OEnd.good.inj h).1
     subst e
     exact .inr ⟨by simp [goodB,hk],rfl,hh⟩
    ·rename_i hk
     split at h
     ·cases h
     ·rename_i h31
      have e:=(OEnd.good.inj h).1
      subst e
      have hwp:0 < wlen (c :: l):=wlen_pos (by simp [wordB,h1])
      have hwl:=wlen_le (c :: l)
      have hlen:((c :: l).take (wlen (c :: l))).length = wlen (c :: l):=by rw [List.length_take];omega
      have hs:(strOf ((c :: l).take (wlen (c :: l)))).size = wlen (c :: l):=hlen
      have hall:wlen ((c :: l).take (wlen (c :: l))) = wlen (c :: l):=wlen_take _ _ (Nat.le_refl _)
      refine .inr ⟨?_,rfl,hh⟩
      simp only [goodB]
      have hhead:(strOf ((c :: l).take (wlen (c :: l)))).data.toList.head?.any letB = true:=by
       show ((c :: l).take (wlen (c :: l))).head?.any letB = true
       obtain ⟨m,hm⟩:∃ m,wlen (c :: l) = m + 1:=⟨wlen (c :: l) - 1,by omega⟩
       rw [hm,List.take_succ_cons]
       simpa using h1
      have hw2:wlen (strOf ((c :: l).take (wlen (c :: l)))).data.toList = (strOf ((c :: l).take (wlen (c :: l)))).size:=by rw [hs];exact hall
      have hk':isKeyB (strOf ((c :: l).take (wlen (c :: l)))) = false:=by simpa using hk
      have:isNameB (strOf ((c :: l).take (wlen (c :: l)))) = true:=by
       unfold isNameB
       rw [hhead,hw2,hk',hs]
       simp;omega
      simp [this]
   ·rw [if_neg h1] at h
    by_cases h2:digB c = true
    ·rw [if_pos h2] at h
     have hh:((c :: l).head?.any fun c=>decide (c.toNat = 34)) = false:=by simpa using (let_word (.inr h2)).2.1
     unfold numE at h
     split at h
     ·cases h
     ·rename_i m u hm
      have e:=(OEnd.good.inj h).1
      subst e
      refine .inr ⟨?_,rfl,hh⟩
      unfold numW at hm
      split at hm
      ·cases hm
      ·rename_i n' _
       split at hm
       ·rename_i hlt
        simp only [Option.some.injEq,Prod.mk.injEq] at hm
        obtain ⟨rfl,hu⟩:=hm
        simp only [goodB,goodNum,if_true]
        cases u with
        | true=>simp;omega
        | false=>
          have he:¬ ((⟨#[]⟩:ByteArray) = uText):=by decide
          have hu2:¬ 2147483648 ≤ n':=by
           intro e
           simp [e] at hu
          simp only [Bool.false_eq_true,if_false]
          rw [if_neg he]
          have e0:(⟨#[]⟩:ByteArray) = ByteArray.empty:=rfl
          rw [e0]
          simp;omega
       ·cases hm
    ·rw [if_neg h2] at h
     by_cases h3:c.toNat = 39
     ·rw [if_pos h3] at h
      obtain ⟨b,j,_,_,rfl⟩:=charE_good h
      refine .inr ⟨?_,rfl,by simp [h3]⟩
      have hb:=b.toNat_lt
      have hs:-128 ≤ sgn b ∧ sgn b < 2147483648:=by unfold sgn;split <;> omega
      have he:¬ ((⟨#[]⟩:ByteArray) = uText):=by decide
      simp only [goodB,goodNum,if_true]
      rw [if_neg he]
      have e0:(⟨#[]⟩:ByteArray) = ByteArray.empty:=rfl
      rw [e0]
      simp [hs]
     ·rw [if_neg h3] at h
      by_cases h4:c.toNat = 34
      ·rw [if_pos h4] at h
       obtain ⟨q,j,_,_,rfl⟩:=strE_good h
       exact .inl ⟨rfl,rfl,by simp [h4]⟩
      ·rw [if_neg h4] at h
       unfold markE at h
       split at h
       ·cases h
       ·rename_i m hm
        have e:=(OEnd.good.inj h).1
        subst e
        refine .inr ⟨?_,rfl,by simp [h4]⟩
        have:Lib.containsS markT m = true:=(Lib.containsS_iff _ _).2 (List.mem_of_find?_eq_some hm)
        simp [goodB,this]
theorem noAdj_snoc:∀ {l:List Tok} {t:Tok},NoAdj l → (∀ a,l.getLast? = some a → ¬ (isStr a = true ∧ isStr t = true)) → NoAdj (l ++ [t])
 | [],_,_,_=>trivial
 | [x],t,_,h=>⟨h x rfl,trivial⟩
 | x :: y :: l,t,hn,h=>⟨hn.1,noAdj_snoc (l:=y :: l) hn.2 (fun a ha=>h a (by simpa using ha))⟩
theorem tokL_okay:∀ k M out L,tokL k M out = .good L → (∀ t ∈ out,goodB t = true) → NoAdj out → (∀ t ∈ L,goodB t = true) ∧ NoAdj L:=by
 have key:=tokL_ind (P:=fun _ _ out e=>∀ L,e = .good L → (∀ t ∈ out,goodB t = true) → NoAdj out → (∀ t ∈ L,goodB t = true) ∧ NoAdj L) ?_ ?_
 ·exact fun k M out L h=>key k M out L h
 ·intro k M out e h L he hg hn
  subst he
  obtain ⟨_,_,_,rfl⟩:=step_good h
  exact ⟨hg,hn⟩
 ·intro k M out n out' h ih L he hg hn
  obtain ⟨b,t',j,_,_,_,ho,_,hp,hs⟩:=step_more h
  have h1:=one_good ho
  refine ih L he ?_ ?_
  ·intro t ht
   rcases hj:joins (M.drop b) out with _ | _
   ·rw [put_new hj] at hp
    rw [hp] at ht hs
    rcases List.mem_append.1 ht with e | e
    ·exact hg t e
    ·obtain rfl:=List.mem_singleton.1 e
     rcases h1 with ⟨k4,k0,_⟩ | ⟨k1,_,_⟩
     ·have:=hs _ List.getLast?_concat
      simp only at this
      simp [goodB,k4,k0,this]
     ·exact k1
   ·obtain ⟨q,t0,rfl⟩:=snoc_of (joins_ne hj)
    rw [put_joins hj,glue_snoc] at hp
    rw [hp] at ht hs
    rw [joins_snoc] at hj
    rcases List.mem_append.1 ht with e | e
    ·exact hg t (by simp [e])
    ·obtain rfl:=List.mem_singleton.1 e
     have g0:=hg t0 (by simp)
     have k4:t0.kind = 4:=by simp [isStr] at hj;exact hj.2
     have k0:t0.num = 0:=by
      simp only [goodB,k4] at g0
      simp at g0
      exact g0.1
     have:=hs _ List.getLast?_concat
     simp only [ByteArray.size_append] at this
     simp [goodB,k4,k0,this]
  ·rcases hj:joins (M.drop b) out with _ | _
   ·rw [put_new hj] at hp
    rw [hp]
    refine noAdj_snoc hn fun a ha ⟨e1,e2⟩=>?_
    have e3:isStr t' = true:=e2
    rcases h1 with ⟨_,_,k3⟩ | ⟨_,k2,_⟩
    ·rw [joins,k3,ha] at hj
     simp [e1] at hj
    ·rw [k2] at e3;cases e3
   ·obtain ⟨q,t0,rfl⟩:=snoc_of (joins_ne hj)
    rw [put_joins hj,glue_snoc] at hp
    rw [hp]
    exact noAdj_kind (l:=q ++ [t0]) (by simp [isStr]) hn
def pairs:List Tok → List (Tok × List UInt8)
 | []=>[]
 | [t]=>[(t,[])]
 | t :: u :: r=>(t,[32]) :: pairs (u :: r)
end Go.Proofs.YtkokdafkjjcgoaaGreatDoor
namespace Go.Proofs.YtkokdafkjjcgoaaGreatDoor
open Go.ChangeShapes Go.WideShapes Go.ChangeAt Go.RowKit Go.Deep
section
variable {H:Type} {enc:TypeId × Value → H} {w:World} {base:Nat} {spare:Nat → Bool} {held:Bool}
def Tok.data (t:Tok):DataW H:=.agg [.lit (.int .i64 t.kind),.lit (.int .i64 t.place),.lit (.int .i64 t.num),.lit (.string t.text.data.toList)]
end
end Go.Proofs.YtkokdafkjjcgoaaGreatDoor
namespace Go.Proofs.YtkokdafkjjcgoaaGreatDoor
open Go.RowKit
theorem good_tok {t:Tok} (h:goodB t = true):TokOk t:=by
 have hs:=good_size h
 refine ⟨?_,?_,by omega⟩
 all_goals
  unfold goodB goodNum at h
  split at h
  ·split at h
   ·rw [decide_eq_true_eq] at h;omega
   ·rw [Bool.and_eq_true,decide_eq_true_eq,decide_eq_true_eq] at h;omega
  ·split at h
   ·cases h
   ·rename_i h0;have:t.num = 0:=by simpa using h0
    omega
theorem lay_good {L:List Tok} (h:∀ t ∈ L,goodB t = true):allGood L = true:=by unfold allGood;rw [List.all_eq_true];exact h
theorem one_blockP {w:World} {b:Nat} {v:Value} {T:TypeId} (h:w.heap[b]? = some (.cells #[v] T (0,0))):w.cell? ⟨b,0,none⟩ = some v ∧ ∀ j,w.frozen? ⟨b,j,none⟩ = false:=by
 refine ⟨?_,fun j=>?_⟩ <;> simp [World.cell?,World.frozen?,h]
structure KeepP (bn:Nat) (W W':World):Prop extends KeepR bn W W' where
 low:∀ k,k < bn → W'.heap[k]? = W.heap[k]?
theorem KeepP.refl (bn:Nat) (W:World):KeepP bn W W:=⟨.refl _ _,fun _ _=>rfl⟩
theorem KeepP.trans {bn:Nat} {A B C:World} (h:KeepP bn A B) (k:KeepP bn B C):KeepP bn A C:=⟨h.toKeepR.trans k.toKeepR,fun i hi=>(k.low i hi).trans (h.low i hi)⟩
theorem KeepP.of_below {bn:Nat} {W W':World} (h:Below W.heap.size W W') (hbn:bn < W.heap.size):KeepP bn W W':=⟨.of_below h hbn,fun k hk=>h.block k (Nat.lt_trans hk hbn)⟩
theorem KeepP.below {bn:Nat} {W W':World} (h:KeepP bn W W'):Below bn W W':=⟨h.os,h.tape,h.output,h.size,h.low⟩
structure PapAt (pb:Nat) (W:List ByteArray) (w:World):Prop where
 box:∃ v,w.heap[pb]? = some (.cells #[v] 99 (0,0)) ∧ w.ownsRow (pb + 1) 9 1 v W.length (W.map Value.string)
theorem PapAt.lt {pb:Nat} {W:List ByteArray} {w:World} (h:PapAt pb W w):pb < w.heap.size:=by
 obtain ⟨v,hb,_⟩:=h.box
 exact lt_of_heap hb
theorem PapAt.rowOk {pb:Nat} {W:List ByteArray} {w:World} (h:PapAt pb W w):RowOk pb w:=by
 obtain ⟨v,hb,ho⟩:=h.box
 have hc:=(one_blockP hb).1
 refine ⟨by rw [hc];rfl,fun g e=>?_⟩
 unfold rowB at e
 rw [hc] at e
 have:=ho.lt g e
 omega
theorem PapAt.below {pb:Nat} {W:List ByteArray} {w w':World} (h:PapAt pb W w) (hb:Below w.heap.size w w'):PapAt pb W w':=by
 obtain ⟨v,h1,h2⟩:=h.box
 exact ⟨v,(hb.block pb (lt_of_heap h1)).trans h1,h2.belowed hb⟩
structure SafeB (pb:Nat) (w:World) (b:Nat):Prop where
 lt:b < w.heap.size
 ne:b ≠ pb
 row:rowB pb w ≠ some b
theorem SafeB.kept {pb b:Nat} {w w':World} (h:SafeB pb w b) (hr:RowOk pb w) (hk:KeepP pb w w'):SafeB pb w' b:=
 ⟨Nat.lt_of_lt_of_le h.lt hk.size,h.ne,fun e=>by
   rcases (hk.rest hr).2.2 b e with e | e
   ·exact h.row e
   ·have:=h.lt;omega⟩
theorem SafeB.low {pb b:Nat} {w:World} (hr:RowOk pb w) (hp:pb < w.heap.size) (hb:b < pb):SafeB pb w b:=⟨by omega,by omega,fun e=>by have:=(hr.2 _ e).1;omega⟩
theorem SafeB.cell {pb:Nat} {w w':World} {p:Addr} {v:Value} (h:SafeB pb w p.block) (hr:RowOk pb w) (hk:KeepP pb w w') (hc:w.cell? p = some v):w'.cell? p = some v:=hk.cell hr h.ne h.row hc
theorem SafeB.obj {pb b:Nat} {w w':World} {cs:Array Value} {T:TypeId} {fz:Nat × Nat} (h:SafeB pb w b) (hr:RowOk pb w) (hk:KeepP pb w w') (ho:w.heap[b]? = some (.cells cs T fz)):w'.heap[b]? = some (.cells cs T fz):=(hk.rest hr).2.1 b _ h.ne h.row ho rfl
theorem SafeB.new {pb b:Nat} {w w':World} (hr:RowOk pb w) (hp:pb < w.heap.size) (hb:Below w.heap.size w w') (h1:w.heap.size ≤ b) (h2:b < w'.heap.size):SafeB pb w' b:=⟨h2,by omega,fun e=>by rw [rowB_below hb hp] at e;have:=(hr.2 _ e).2;omega⟩
structure SlS {α:Type} (k:Nat) (cells:α → List Value) (pb:Nat) (w:World) (a:Option Addr) (L:List α):Prop where
 sl:IsSl k cells w.heap.size w a L
 safe:L ≠ [] → ∀ b off,a = some ⟨b,off,none⟩ → SafeB pb w b
theorem SlS.kept {α:Type} {k pb:Nat} {cells:α → List Value} {w w':World} {a:Option Addr} {L:List α} (h:SlS k cells pb w a L) (hr:RowOk pb w) (hk:KeepP pb w w'):SlS k cells pb w' a L:=by
 refine ⟨fun hn=>?_,fun hn b off e=>(h.safe hn b off e).kept hr hk⟩
 obtain ⟨b,off,ha,hlt,hc⟩:=h.sl hn
 have hs:=h.safe hn b off ha
 exact ⟨b,off,ha,Nat.lt_of_lt_of_le hlt hk.size,fun i x hx j u hu=>hs.cell (p:=⟨b,_,none⟩) hr hk (hc i x hx j u hu)⟩
theorem SlS.low {α:Type} {k pb:Nat} {cells:α → List Value} {w:World} {a:Option Addr} {L:List α} (hr:RowOk pb w) (hp:pb < w.heap.size) (h:IsSl k cells pb w a L):SlS k cells pb w a L:=by
 refine ⟨h.mono (Nat.le_of_lt hp),fun hn b off e=>?_⟩
 obtain ⟨b',off',ha,hlt,_⟩:=h hn
 rw [ha] at e
 simp only [Option.some.injEq,Addr.mk.injEq] at e
 obtain ⟨rfl,_,_⟩:=e
 exact .low hr hp hlt
theorem SlS.new {α:Type} {k pb:Nat} {cells:α → List Value} {w w':World} {a:Option Addr} {L:List α} (hr:RowOk pb w) (hp:pb < w.heap.size) (hb:Below w.heap.size w w') (h:IsSl k cells w'.heap.size w' a L) (hf:L ≠ [] → ∀ b off,a = some ⟨b,off,none⟩ → w.heap.size ≤ b):SlS k cells pb w' a L:=by
 refine ⟨h,fun hn b off e=>?_⟩
 obtain ⟨b',off',ha,hlt,_⟩:=h hn
 have h1:=hf hn b off e
 rw [ha] at e
 simp only [Option.some.injEq,Addr.mk.injEq] at e
 obtain ⟨rfl,_,_⟩:=e
 exact .new hr hp hb h1 hlt
structure EnvB (pb:Nat) (w:World):Prop where
 env:Env w
 pow:PowAt w
 lts:1 < pb ∧ 0 < pb ∧ 4 < pb ∧ 5 < pb ∧ 2 < pb ∧ 3 < pb
theorem EnvB.kept {pb:Nat} {w w':World} (h:EnvB pb w) (hp:pb < w.heap.size) (hr:RowOk pb w) (hk:KeepP pb w w'):EnvB pb w':=by
 have low:∀ b,b < pb → SafeB pb w b:=fun b hb=>.low hr hp hb
 obtain ⟨g1,g2,g3,g4,g5,g6⟩:=h.lts
 have c:∀ (p:Addr) (v:Value),p.block < pb → w.cell? p = some v → w'.cell? p = some v:=fun p v h1 h2=>(low _ h1).cell hr hk h2
 refine ⟨⟨fun j hj=>c _ _ g1 (h.env.keys j hj),fun j hj=>c _ _ g2 (h.env.marks j hj),?_,?_⟩,?_,h.lts⟩
 ·obtain ⟨⟨x,x1,x2⟩,y,y1,y2⟩:=h.env.errs
  exact ⟨⟨x,c _ _ g3 x1,x2⟩,y,c _ _ g4 y1,y2⟩
 ·obtain ⟨m,hm⟩:=h.env.maxl
  exact ⟨m,c _ _ g5 hm⟩
 ·have hv:=h.pow
  unfold PowAt Lib.TabIs World.var? at hv ⊢
  simp only [powG,Option.bind_some] at hv ⊢
  cases ho:w.heap[3]? with
  | none=>rw [ho] at hv;cases hv
  | some o=>
    rw [ho] at hv
    cases o with
    | cells cs T fz=>
      rw [(low _ g6).obj hr hk ho]
      exact hv
    | _=>cases hv
theorem set_blkP {w:World} {b i:Nat} {c:Array Value} {T:TypeId} (h:w.heap[b]? = some (.cells c T (0,0))) (v:Value):(w.setCell ⟨b,i,none⟩ v).heap[b]? = some (.cells (c.setIfInBounds i v) T (0,0)):=by
 simp [World.setCell,Array.getElem?_modify,h]
theorem pap_put {pb g cap:Nat} {W L:List ByteArray} {w w1:World} {v:Value} (h:w.heap[pb]? = some (.cells #[v] 99 (0,0))) (ho:w.ownsRow (pb + 1) 9 1 v W.length (W.map Value.string)) (hg:w.grownBy w1 v.ownBlock)
 (hown:w1.ownsRow (pb + 1) 9 1 (.slice (some ⟨g,0,none⟩) (W.length + L.length) cap) (W.length + L.length) (W.map Value.string ++ L.map Value.string)) (hat:v.ownBlock = some g ∨ g = w.heap.size) :
 PapAt pb (W ++ L) (w1.setCell ⟨pb,0,none⟩ (.slice (some ⟨g,0,none⟩) (W.length + L.length) cap)) ∧ KeepP pb w (w1.setCell ⟨pb,0,none⟩ (.slice (some ⟨g,0,none⟩) (W.length + L.length) cap)):=by
 have hpl:=lt_of_heap h
 have hg1:=hown.lt g rfl
 have hr:=fun k hk=>(ho.lt k hk).1
 have hb1:w1.heap[pb]? = some (.cells #[v] 99 (0,0)):=(hg.block pb hpl (fun e=>by have:=hr pb e.symm;omega)).trans h
 have hP:PapAt pb (W ++ L) (w1.setCell ⟨pb,0,none⟩ (.slice (some ⟨g,0,none⟩) (W.length + L.length) cap)):=by
  refine ⟨_,set_blkP hb1 _,?_⟩
  rw [List.length_append,List.map_append]
  exact row_set9 hown _ _ (by simp [Value.ownBlock];omega)
 refine ⟨hP,⟨hg.os,hg.tape,hg.output,by simpa using hg.size,fun _=>⟨hP.rowOk,fun k o hk hn hko _=>?_,fun g' e=>?_⟩⟩,fun k hk=>?_⟩
 ·rw [Below.heap_setCell _ _ _ _ (by simpa using hk)]
  exact (hg.block k (lt_of_heap hko) (fun e=>hn (by unfold rowB;rw [(one_blockP h).1];exact e.symm))).trans hko
 ·unfold rowB at e ⊢
  rw [(one_blockP (set_blkP hb1 _)).1] at e
  rw [(one_blockP h).1]
  simp only [Option.bind_some,Value.ownBlock,Option.some.injEq] at e ⊢
  subst e
  exact hat.imp id (fun e=>by omega)
 ·rw [Below.heap_setCell _ _ _ _ (by simp;omega)]
  exact hg.block k (by omega) (fun e=>by have:=hr k e.symm;omega)
end Go.Proofs.YtkokdafkjjcgoaaGreatDoor
