/- What a tree is laid out as: the tokens of an expression, of -/
import Derived.Test.YtkokdafkjjcgoaaGreatDoorMg24
namespace Go.Proofs.YtkokdafkjjcgoaaGreatDoor
def tkM (s:ByteArray):Tok:=⟨5,0,0,s⟩
def tkK (s:ByteArray):Tok:=⟨2,0,0,s⟩
def tkN (s:ByteArray):Tok:=⟨1,0,0,s⟩
def tkS (s:ByteArray):Tok:=⟨4,0,0,s⟩
def tkI (x:Nd):Tok:=⟨3,0,x.int,if x.type = ⟨#[117]⟩ then ⟨#[117]⟩ else ⟨#[]⟩⟩
def toksE (s:ByteArray):List Tok:=match tokE s with
 | .good L=>L
 | .bad _ _=>[]
def declW (s name:ByteArray):ByteArray:=match tyS s with
 | none=>⟨#[]⟩
 | some t=>if name = ⟨#[]⟩ ∨ isNameB name = true then strB (declT t name.data.toList) else ⟨#[]⟩
def declK (s name:ByteArray):List Tok:=toksE (declW s name)
def brkT (s:ByteArray):List Tok:=tkM ⟨#[40]⟩ :: (declK s ⟨#[]⟩ ++ [tkM ⟨#[41]⟩])
def ndAt (t:List Nd) (k:Nat):Nd:=(t[k]?).getD ⟨0,0,0,0,⟨#[]⟩,⟨#[]⟩⟩
theorem ndAt_is {t:List Nd} {k:Nat} {x:Nd} (h:t[k]? = some x):ndAt t k = x:=by unfold ndAt;rw [h];rfl
theorem ndAt_kind (t:List Nd) (k:Nat):kindAt t k = (ndAt t k).kind:=by
 unfold kindAt ndAt
 cases t[k]? <;> rfl
def lvN (x:Nd):Int:=
 if x.kind = 10 then 1
 else if x.kind = 8 then 2
 else if x.kind = 9 then 3
 else if x.kind = 7 then levelN x.text
 else if x.kind = 15 then 14
 else if x.kind = 4 ∨ x.kind = 5 ∨ x.kind = 16 ∨ x.kind = 17 then 15
 else if x.kind = 6 ∨ x.kind = 11 ∨ x.kind = 12 ∨ x.kind = 13 ∨ x.kind = 14 then 16
 else 17
def partF (t:List Nd) (e:Nat → List Tok) (due:Int) (p:Nat):List Tok:=if due ≤ lvN (ndAt t p) then e p else tkM ⟨#[40]⟩ :: (e p ++ [tkM ⟨#[41]⟩])
def atF (l:List Nat) (f:Nat → List Tok) (i:Nat):List Tok:=match l[i]? with
 | some p=>f p
 | none=>[]
theorem atF_is {l:List Nat} {f:Nat → List Tok} {i:Nat} (h:i < l.length):atF l f i = f l[i]:=by unfold atF;rw [List.getElem?_eq_getElem h]
theorem atF_same {l:List Nat} {f g:Nat → List Tok} (h:∀ p ∈ l,f p = g p) (i:Nat):atF l f i = atF l g i:=by
 unfold atF
 cases hi:l[i]? with
 | none=>rfl
 | some p=>exact h p (List.mem_of_getElem? hi)
def rowF (l:List Nat) (f:Nat → List Tok) (n:Nat):List Tok:=(List.range n).flatMap fun i=>(if 0 < i then [tkM ⟨#[44]⟩] else []) ++ atF l f i
theorem rowF_next (l:List Nat) (f:Nat → List Tok) (n:Nat):rowF l f (n + 1) = rowF l f n ++ ((if 0 < n then [tkM ⟨#[44]⟩] else []) ++ atF l f n):=by
 unfold rowF
 rw [List.range_succ,List.flatMap_append]
 simp
theorem rowF_same {l:List Nat} {f g:Nat → List Tok} (h:∀ p ∈ l,f p = g p) (n:Nat):rowF l f n = rowF l g n:=by
 unfold rowF
 refine flatMap_same fun i _=>?_
 rw [atF_same h i]
def backB (t:List Nd) (l:List Nat) (e:Nat → List Tok) (x:Nd):List Tok:=
 if x.kind = 6 then [tkM x.text]
 else if x.kind = 11 then tkM ⟨#[40]⟩ :: (rowF l.tail (partF t e 2) l.tail.length ++ [tkM ⟨#[41]⟩])
 else if x.kind = 12 then tkM ⟨#[91]⟩ :: (atF l (partF t e 1) 1 ++ [tkM ⟨#[93]⟩])
 else if x.kind = 13 then [tkM ⟨#[46]⟩,tkN x.text]
 else if x.kind = 14 then [tkM ⟨#[45,62]⟩,tkN x.text]
 else []
def exprB (t:List Nd) (l:List Nat) (e:Nat → List Tok) (x:Nd):List Tok:=
 if x.kind = 1 then [tkI x]
 else if x.kind = 2 then [tkS x.text]
 else if x.kind = 3 then [tkN x.text]
 else if x.kind = 4 then tkM x.text :: atF l (partF t e 14) 0
 else if x.kind = 5 then tkM x.text :: atF l (partF t e 15) 0
 else if x.kind = 7 then atF l (partF t e (levelN x.text)) 0 ++ tkM x.text :: atF l (partF t e (levelN x.text + 1)) 1
 else if x.kind = 8 then atF l (partF t e 15) 0 ++ tkM x.text :: atF l (partF t e 2) 1
 else if x.kind = 10 then atF l (partF t e 1) 0 ++ tkM ⟨#[44]⟩ :: atF l (partF t e 2) 1
 else if x.kind = 9 then atF l (partF t e 4) 0 ++ tkM ⟨#[63]⟩ :: (atF l (partF t e 1) 1 ++ tkM ⟨#[58]⟩ :: atF l (partF t e 3) 2)
 else if x.kind = 15 then brkT x.type ++ atF l (partF t e 14) 0
 else if x.kind = 17 then tkK ⟨#[115,105,122,101,111,102]⟩ :: brkT x.type
 else if x.kind = 16 then tkK ⟨#[115,105,122,101,111,102]⟩ :: atF l (partF t e 15) 0
 else atF l (partF t e 16) 0 ++ backB t l e x
theorem exprB_same {t:List Nd} {l:List Nat} {e e':Nat → List Tok} (h:∀ p ∈ l,e p = e' p) (x:Nd):exprB t l e x = exprB t l e' x:=by
 have h1:∀ due,∀ p ∈ l,partF t e due p = partF t e' due p:=fun due p hp=>by unfold partF;rw [h p hp]
 have h2:∀ due i,atF l (partF t e due) i = atF l (partF t e' due) i:=fun due i=>atF_same (h1 due) i
 have h3:∀ due n,rowF l.tail (partF t e due) n = rowF l.tail (partF t e' due) n:=fun due n=>rowF_same (fun p hp=>h1 due p (List.mem_of_mem_tail hp)) n
 unfold exprB backB
 simp only [h2,h3]
def exprF (t:List Nd) (fr:List Nat):Nat → Nat → List Tok
 | 0,_=>[]
 | m + 1,k=>exprB t (partsAt t fr k) (exprF t fr m) (ndAt t k)
def exprN (t:List Nd) (fr:List Nat) (k:Nat):List Tok:=exprF t fr (k + 1) k
theorem exprF_more {t:List Nd} {fr:List Nat} (h:Formed t fr):∀ (m k:Nat),k < m → exprF t fr m k = exprF t fr (k + 1) k
 | 0,k,hk=>by omega
 | m + 1,k,hk=>by
   rw [exprF,exprF]
   refine exprB_same (fun p hp=>?_) _
   have:=h.parts_lt hp
   rw [exprF_more h m p (by omega),exprF_more h k p (by omega)]
theorem exprN_eq {t:List Nd} {fr:List Nat} (h:Formed t fr) (k:Nat):exprN t fr k = exprB t (partsAt t fr k) (exprN t fr) (ndAt t k):=by
 unfold exprN
 rw [exprF]
 exact exprB_same (fun p hp=>exprF_more h k p (h.parts_lt hp)) _
def partN (t:List Nd) (fr:List Nat) (due:Int) (p:Nat):List Tok:=partF t (exprN t fr) due p
def tkW:ByteArray:=⟨#[119,104,105,108,101]⟩
def askF (l:List Nat) (f:Nat → List Tok) (word:ByteArray) (i:Nat):List Tok:=tkK word :: tkM ⟨#[40]⟩ :: (atF l f i ++ [tkM ⟨#[41]⟩])
def perF (t:List Nd) (f:Nat → List Tok) (p:Nat):List Tok:=if kindAt t p = 33 then [] else f p
def stmtB (t:List Nd) (l:List Nat) (f:Int → Nat → List Tok) (e:Nat → List Tok) (x:Nd):List Tok:=
 if x.kind = 33 then [tkM ⟨#[59]⟩]
 else if x.kind = 20 then atF l (perF t (f 1)) 0 ++ [tkM ⟨#[59]⟩]
 else if x.kind = 21 then tkM ⟨#[123]⟩ :: ((List.range l.length).flatMap (atF l e) ++ [tkM ⟨#[125]⟩])
 else if x.kind = 22 then (if x.int = 1 then [tkK ⟨#[118,111,108,97,116,105,108,101]⟩] else []) ++ (declK x.type x.text ++ ((if 0 < l.length then tkM ⟨#[61]⟩ :: atF l (f 2) 0 else []) ++ [tkM ⟨#[59]⟩]))
 else if x.kind = 23 then askF l (f 1) ⟨#[105,102]⟩ 0 ++ (atF l e 1 ++ (if l.length = 3 then tkK ⟨#[101,108,115,101]⟩ :: atF l e 2 else []))
 else if x.kind = 24 then askF l (f 1) tkW 0 ++ atF l e 1
 else if x.kind = 27 then askF l (f 1) ⟨#[115,119,105,116,99,104]⟩ 0 ++ atF l e 1
 else if x.kind = 25 then tkK ⟨#[100,111]⟩ :: (atF l e 0 ++ (askF l (f 1) tkW 1 ++ [tkM ⟨#[59]⟩]))
 else if x.kind = 26 then tkK ⟨#[102,111,114]⟩ :: tkM ⟨#[40]⟩ :: (atF l e 0 ++ (atF l (perF t (f 1)) 1 ++ tkM ⟨#[59]⟩ :: (atF l (perF t (f 1)) 2 ++ tkM ⟨#[41]⟩ :: atF l e 3)))
 else if x.kind = 28 then tkK ⟨#[99,97,115,101]⟩ :: (atF l (f 3) 0 ++ tkM ⟨#[58]⟩ :: atF l e 1)
 else if x.kind = 29 then tkK ⟨#[100,101,102,97,117,108,116]⟩ :: tkM ⟨#[58]⟩ :: atF l e 0
 else if x.kind = 30 then [tkK ⟨#[98,114,101,97,107]⟩,tkM ⟨#[59]⟩]
 else if x.kind = 31 then [tkK ⟨#[99,111,110,116,105,110,117,101]⟩,tkM ⟨#[59]⟩]
 else tkK ⟨#[114,101,116,117,114,110]⟩ :: (atF l (f 1) 0 ++ [tkM ⟨#[59]⟩])
theorem stmtB_same {t:List Nd} {l:List Nat} {f:Int → Nat → List Tok} {e e':Nat → List Tok} (h:∀ p ∈ l,e p = e' p) (x:Nd):stmtB t l f e x = stmtB t l f e' x:=by
 have h1:∀ i,atF l e i = atF l e' i:=fun i=>atF_same h i
 have h2:atF l e = atF l e':=funext h1
 unfold stmtB
 rw [h2]
def stmtF (t:List Nd) (fr:List Nat):Nat → Nat → List Tok
 | 0,_=>[]
 | m + 1,k=>stmtB t (partsAt t fr k) (partN t fr) (stmtF t fr m) (ndAt t k)
def stmtN (t:List Nd) (fr:List Nat) (k:Nat):List Tok:=stmtF t fr (k + 1) k
theorem stmtF_more {t:List Nd} {fr:List Nat} (h:Formed t fr):∀ (m k:Nat),k < m → stmtF t fr m k = stmtF t fr (k + 1) k
 | 0,k,hk=>by omega
 | m + 1,k,hk=>by
   rw [stmtF,stmtF]
   refine stmtB_same (fun p hp=>?_) _
   have:=h.parts_lt hp
   rw [stmtF_more h m p (by omega),stmtF_more h k p (by omega)]
theorem stmtN_eq {t:List Nd} {fr:List Nat} (h:Formed t fr) (k:Nat):stmtN t fr k = stmtB t (partsAt t fr k) (partN t fr) (stmtN t fr) (ndAt t k):=by
 unfold stmtN
 rw [stmtF]
 exact stmtB_same (fun p hp=>stmtF_more h k p (h.parts_lt hp)) _
theorem atF_len {l:List Nat} {f:Nat → List Tok} {g:Nat → Nat} (h:∀ p ∈ l,(f p).length ≤ g p) (i:Nat):(atF l f i).length ≤ (l.map g)[i]?.getD 0:=by
 unfold atF
 rw [List.getElem?_map]
 cases hi:l[i]? with
 | none=>simp
 | some p=>simpa using h p (List.mem_of_getElem? hi)
theorem get4_sum:∀ (L:List Nat),L[0]?.getD 0 + L[1]?.getD 0 + L[2]?.getD 0 + L[3]?.getD 0 ≤ L.sum
 | []=>by simp
 | [a]=>by simp
 | [a,b]=>by simp
 | [a,b,c]=>by simp;omega
 | a :: b :: c :: d :: r=>by simp;omega
theorem getD_tail (L:List Nat):L[0]?.getD 0 + L.tail.sum = L.sum:=by cases L <;> simp
theorem range_get:∀ (L:List Nat),((List.range L.length).map fun i=>L[i]?.getD 0).sum = L.sum
 | []=>rfl
 | a :: L=>by
   rw [List.length_cons,List.range_succ_eq_map,List.map_cons,List.map_map,List.sum_cons,List.sum_cons]
   have:=range_get L
   simp only [Function.comp_def,List.getElem?_cons_succ,List.getElem?_cons_zero,Option.getD_some]
   omega
theorem flatMap_le {α β:Type} {f:α → List β} {g:α → Nat}:∀ {l:List α},(∀ x ∈ l,(f x).length ≤ g x) → (l.flatMap f).length ≤ (l.map g).sum
 | [],_=>by simp
 | x :: l,h=>by
   rw [List.flatMap_cons,List.length_append,List.map_cons,List.sum_cons]
   have:=h x (List.mem_cons_self ..)
   have:=flatMap_le fun y hy=>h y (List.mem_cons_of_mem _ hy)
   omega
theorem rowF_len {l:List Nat} {f:Nat → List Tok} {g:Nat → Nat} (h:∀ p ∈ l,(f p).length + 1 ≤ g p):(rowF l f l.length).length ≤ (l.map g).sum:=by
 unfold rowF
 refine Nat.le_trans (flatMap_le (g:=fun i=>(l.map g)[i]?.getD 0) fun i hi=>?_) ?_
 ·rw [List.mem_range] at hi
  have hm:(f l[i]).length + 1 ≤ g l[i]:=h _ (List.getElem_mem hi)
  rw [List.length_append,atF_is hi,List.getElem?_map,List.getElem?_eq_getElem hi]
  simp only [Option.map_some,Option.getD_some]
  split <;> simp <;> omega
 ·have:=range_get (l.map g)
  rw [List.length_map] at this
  omega
theorem partF_len (t:List Nd) (e:Nat → List Tok) (due:Int) (p:Nat):(partF t e due p).length ≤ (e p).length + 2:=by
 unfold partF
 split
 ·omega
 ·simp
theorem ite_le {c:Prop} [Decidable c] {a b:List Tok} {n:Nat} (h1:a.length ≤ n) (h2:b.length ≤ n):(if c then a else b).length ≤ n:=by split <;> assumption
theorem exprB_len {t:List Nd} {l:List Nat} {e:Nat → List Tok} {g:Nat → Nat} {D:Nat} (x:Nd) (h:∀ p ∈ l,(e p).length + 3 ≤ g p) (hD:∀ s n,(declK s n).length ≤ D):(exprB t l e x).length ≤ D + 5 + (l.map g).sum:=by
 have h0:∀ due,∀ p ∈ l,(partF t e due p).length ≤ g p:=fun due p hp=>by have:=partF_len t e due p;have:=h p hp;omega
 have h1:∀ due i,(atF l (partF t e due) i).length ≤ (l.map g)[i]?.getD 0:=fun due i=>atF_len (h0 due) i
 have h2:(rowF l.tail (partF t e 2) l.tail.length).length ≤ (l.tail.map g).sum:=rowF_len fun p hp=>by have:=partF_len t e 2 p;have:=h p (List.mem_of_mem_tail hp);omega
 have h3:=get4_sum (l.map g)
 have h4:=getD_tail (l.map g)
 have h5:=hD x.type ⟨#[]⟩
 rw [← List.map_tail] at h4
 have q0:∀ due,(atF l (partF t e due) 0).length ≤ (l.map g)[0]?.getD 0:=fun due=>h1 due 0
 have q1:∀ due,(atF l (partF t e due) 1).length ≤ (l.map g)[1]?.getD 0:=fun due=>h1 due 1
 have q2:∀ due,(atF l (partF t e due) 2).length ≤ (l.map g)[2]?.getD 0:=fun due=>h1 due 2
 clear h0 h1
 generalize (l.map g)[0]?.getD 0 = a0 at *
 generalize (l.map g)[1]?.getD 0 = a1 at *
 generalize (l.map g)[2]?.getD 0 = a2 at *
 generalize (l.map g)[3]?.getD 0 = a3 at *
 have e1:=q0 14
 have e2:=q0 15
 have e3:=q0 16
 have e4:=q0 (levelN x.text)
 have e5:=q1 (levelN x.text + 1)
 have e6:=q1 2
 have e7:=q0 1
 have e8:=q0 4
 have e9:=q1 1
 have e10:=q2 3
 have e11:(atF l (partF t e 16) 0 ++ backB t l e x).length ≤ D + 5 + (l.map g).sum:=by
  rw [List.length_append]
  have:(backB t l e x).length ≤ 5 + (l.map g).sum - a0:=by
   unfold backB
   repeat' refine ite_le ?_ ?_
   all_goals
    simp only [List.length_append,List.length_cons,List.length_nil]
    omega
  omega
 unfold exprB brkT
 repeat' refine ite_le ?_ ?_
 all_goals first
  | exact e11
  | (simp only [List.length_append,List.length_cons,List.length_nil]
     omega)
theorem toksE_len (s:ByteArray):(toksE s).length ≤ 16384:=by
 unfold toksE
 rcases h:tokE s with L | _
 ·exact tokL_len _ _ _ _ (tokE_good h).2.1 (by simp)
 ·exact Nat.zero_le _
def AllG (L:List Tok):Prop:=∀ x ∈ L,goodB x = true
theorem AllG.nil:AllG []:=fun _ h=>by cases h
theorem AllG.cons {x:Tok} {L:List Tok} (h:goodB x = true) (h':AllG L):AllG (x :: L):=fun y hy=>by
 rcases List.mem_cons.1 hy with rfl | hy
 ·exact h
 ·exact h' y hy
theorem AllG.app {L M:List Tok} (h:AllG L) (h':AllG M):AllG (L ++ M):=fun y hy=>(List.mem_append.1 hy).elim (h y) (h' y)
theorem AllG.ite {c:Prop} [Decidable c] {L M:List Tok} (h:c → AllG L) (h':¬ c → AllG M):AllG (if c then L else M):=by
 by_cases e:c
 ·rw [if_pos e];exact h e
 ·rw [if_neg e];exact h' e
theorem AllG.flat {α:Type} {l:List α} {f:α → List Tok} (h:∀ x ∈ l,AllG (f x)):AllG (l.flatMap f):=fun y hy=>by
 obtain ⟨x,hx,hy⟩:=List.mem_flatMap.1 hy
 exact h x hx y hy
theorem AllG.at {l:List Nat} {f:Nat → List Tok} (h:∀ p ∈ l,AllG (f p)) (i:Nat):AllG (atF l f i):=by
 unfold atF
 cases hi:l[i]? with
 | none=>exact .nil
 | some p=>exact h p (List.mem_of_getElem? hi)
theorem toksE_good (s:ByteArray):AllG (toksE s):=by
 unfold toksE
 rcases h:tokE s with L | _
 ·exact (tokL_okay _ _ _ _ (tokE_good h).2.1 (fun _ h=>by cases h) trivial).1
 ·exact .nil
theorem good_M {s:ByteArray} (h:Lib.containsS markT s = true):goodB (tkM s) = true:=by simp [goodB,tkM,h]
theorem good_K {s:ByteArray} (h:isKeyB s = true):goodB (tkK s) = true:=by simp [goodB,tkK,h]
theorem good_N {s:ByteArray} (h:isNameB s = true):goodB (tkN s) = true:=by simp [goodB,tkN,h]
theorem good_S {s:ByteArray} (h:s.size ≤ 4096):goodB (tkS s) = true:=by simp [goodB,tkS,h]
theorem rowF_good {l:List Nat} {f:Nat → List Tok} (h:∀ p ∈ l,AllG (f p)) (n:Nat):AllG (rowF l f n):=
 .flat fun i _=>.app (.ite (fun _=>.cons (good_M (by decide)) .nil) fun _=>.nil) (.at h i)
theorem partF_good {t:List Nd} {e:Nat → List Tok} {due:Int} {p:Nat} (h:AllG (e p)):AllG (partF t e due p):=
 .ite (fun _=>h) fun _=>.cons (good_M (by decide)) (.app h (.cons (good_M (by decide)) .nil))
theorem declK_good (s n:ByteArray):AllG (declK s n):=toksE_good _
theorem brkT_good (s:ByteArray):AllG (brkT s):=.cons (good_M (by decide)) (.app (declK_good _ _) (.cons (good_M (by decide)) .nil))
theorem marks_in (k:Int):∀ x ∈ marksN k,Lib.containsS markT x = true:=by
 unfold marksN marksB
 repeat' split
 all_goals decide
theorem ndM_good {x:Nd} (h:wellN x = true) (hk:x.kind = 4 ∨ x.kind = 5 ∨ x.kind = 6 ∨ x.kind = 7 ∨ x.kind = 8):goodB (tkM x.text) = true:=by
 unfold wellN bodyOk at h
 rw [if_neg (by omega),if_neg (by omega),if_neg (by omega),if_neg (by omega),if_pos hk] at h
 simp only [Bool.and_eq_true] at h
 exact good_M (marks_in _ _ ((Lib.containsS_iff _ _).1 h.2.2.1))
theorem ndN_good {x:Nd} (h:wellN x = true) (hk:x.kind = 3 ∨ x.kind = 13 ∨ x.kind = 14):goodB (tkN x.text) = true:=by
 unfold wellN bodyOk at h
 rw [if_neg (by omega),if_neg (by omega),if_pos hk] at h
 simp only [Bool.and_eq_true] at h
 exact good_N h.2.2.1
theorem ndS_good {x:Nd} (h:wellN x = true) (hk:x.kind = 2):goodB (tkS x.text) = true:=by
 unfold wellN bodyOk at h
 rw [if_neg (by omega),if_pos hk] at h
 simp only [Bool.and_eq_true,decide_eq_true_eq] at h
 exact good_S h.2.2.1
theorem ndI_good {x:Nd} (h:wellN x = true) (hk:x.kind = 1):goodB (tkI x) = true:=by
 unfold wellN at h
 rw [if_pos hk] at h
 simp only [Bool.and_eq_true] at h
 have h1:=h.2.1
 unfold numberN at h1
 unfold goodB goodNum tkI
 rw [if_pos rfl]
 by_cases hu:x.type = ⟨#[117]⟩
 ·rw [if_pos hu] at h1 ⊢
  rw [if_pos (show (⟨#[117]⟩:ByteArray) = uText from rfl)]
  exact h1
 ·rw [if_neg hu] at h1 ⊢
  simp only [Bool.and_eq_true] at h1
  rw [if_neg (show ¬ (⟨#[]⟩:ByteArray) = uText by decide)]
  simp only [Bool.and_eq_true]
  exact ⟨by rfl,h1.2⟩
structure Right9 (t:List Nd) (fr:List Nat):Prop where
 given:Given t fr
 begins:beginsN t = some fr
 fits:∀ k,k < t.length → fitsN t fr k = true
theorem check_right {t:List Nd} (h:checkN9 t = 0):∃ fr,Right9 t fr:=by
 obtain ⟨fr,hb,hG⟩:=check_formed h
 refine ⟨fr,hG,hb,?_⟩
 unfold checkN9 at h
 split at h
 ·cases h
 split at h
 ·cases h
 rw [hb] at h
 simp only at h
 split at h
 ·cases h
 rename_i hf
 simp only [Bool.not_eq_false,List.all_eq_true,List.mem_range] at hf
 exact hf
theorem mayAll_at {t:List Nd} {k:Int}:∀ {l:List Nat} {i:Nat},mayAll t k i l = true → ∀ j (h:j < l.length),mayN k (i + j) (kindAt t l[j]) = true
 | [],_,_,j,h=>by simp at h
 | p :: l,i,h,j,hj=>by
   rw [mayAll,Bool.and_eq_true] at h
   cases j with
   | zero=>exact h.1
   | succ j=>
     have:=mayAll_at h.2 j (by simpa using hj)
     rw [show i + (j + 1) = i + 1 + j by omega]
     exact this
theorem Right9.may {t:List Nd} {fr:List Nat} (h:Right9 t fr) {k:Nat} (hk:k < t.length):∀ j (hj:j < (partsAt t fr k).length),mayN (kindAt t k) j (kindAt t (partsAt t fr k)[j]) = true:=fun j hj=>by
 have h1:=h.fits k hk
 unfold fitsN at h1
 rw [Bool.and_eq_true] at h1
 have:=mayAll_at h1.1 j hj
 rwa [Nat.zero_add] at this
theorem Right9.expr {t:List Nd} {fr:List Nat} (h:Right9 t fr) {k:Nat} (hk:k < t.length) (he:exprK (kindAt t k) = true):∀ p ∈ partsAt t fr k,p < k ∧ exprK (kindAt t p) = true:=fun p hp=>by
 refine ⟨h.given.formed.parts_lt hp,?_⟩
 obtain ⟨j,hj,rfl⟩:=List.mem_iff_getElem.1 hp
 have:=h.may hk j hj
 unfold mayN at this
 rw [if_pos (.inl he)] at this
 exact this
theorem Right9.nd {t:List Nd} {fr:List Nat} (h:Right9 t fr) {k:Nat} (hk:k < t.length):t[k]? = some (ndAt t k) ∧ wellN (ndAt t k) = true:=by
 have hx:=List.getElem?_eq_getElem hk
 rw [ndAt_is hx]
 exact ⟨hx,h.given.well k _ hx⟩
theorem exprN_good {t:List Nd} {fr:List Nat} (h:Right9 t fr):∀ (m k:Nat),k < m → k < t.length → exprK (kindAt t k) = true → AllG (exprN t fr k)
 | 0,k,hm,_,_=>by omega
 | m + 1,k,hm,hk,he=>by
   have hp:∀ due,∀ p ∈ partsAt t fr k,AllG (partF t (exprN t fr) due p):=fun due p hp=>by
    obtain ⟨h1,h2⟩:=h.expr hk he p hp
    exact partF_good (exprN_good h m p (by omega) (by omega) h2)
   have ha:=fun due i=>AllG.at (hp due) i
   obtain ⟨_,hw⟩:=h.nd hk
   rw [exprN_eq h.given.formed]
   rw [ndAt_kind] at he
   generalize ndAt t k = x at *
   have hr:AllG (rowF (partsAt t fr k).tail (partF t (exprN t fr) 2) (partsAt t fr k).tail.length):=rowF_good (fun p h=>hp 2 p (List.mem_of_mem_tail h)) _
   unfold exprB backB
   refine .ite (fun e=>.cons (ndI_good hw e) .nil) fun _=>?_
   refine .ite (fun e=>.cons (ndS_good hw e) .nil) fun _=>?_
   refine .ite (fun e=>.cons (ndN_good hw (.inl e)) .nil) fun _=>?_
   refine .ite (fun e=>.cons (ndM_good hw (by omega)) (ha _ _)) fun _=>?_
   refine .ite (fun e=>.cons (ndM_good hw (by omega)) (ha _ _)) fun _=>?_
   refine .ite (fun e=>.app (ha _ _) (.cons (ndM_good hw (by omega)) (ha _ _))) fun _=>?_
   refine .ite (fun e=>.app (ha _ _) (.cons (ndM_good hw (by omega)) (ha _ _))) fun _=>?_
   refine .ite (fun e=>.app (ha _ _) (.cons (good_M (by decide)) (ha _ _))) fun _=>?_
   refine .ite (fun e=>.app (ha _ _) (.cons (good_M (by decide)) (.app (ha _ _) (.cons (good_M (by decide)) (ha _ _))))) fun _=>?_
   refine .ite (fun e=>.app (brkT_good _) (ha _ _)) fun _=>?_
   refine .ite (fun e=>.cons (good_K (by decide)) (brkT_good _)) fun _=>?_
   refine .ite (fun e=>.cons (good_K (by decide)) (ha _ _)) fun _=>?_
   refine .app (ha _ _) ?_
   refine .ite (fun e=>.cons (ndM_good hw (by omega)) .nil) fun _=>?_
   refine .ite (fun e=>.cons (good_M (by decide)) (.app hr (.cons (good_M (by decide)) .nil))) fun _=>?_
   refine .ite (fun e=>.cons (good_M (by decide)) (.app (ha _ _) (.cons (good_M (by decide)) .nil))) fun _=>?_
   refine .ite (fun e=>.cons (good_M (by decide)) (.cons (ndN_good hw (by omega)) .nil)) fun _=>?_
   exact .ite (fun e=>.cons (good_M (by decide)) (.cons (ndN_good hw (by omega)) .nil)) fun _=>.nil
theorem sum_mul (c:Nat) (f:Nat → Nat):∀ l:List Nat,(l.map fun p=>c * f p).sum = c * (l.map f).sum
 | []=>rfl
 | a :: l=>by rw [List.map_cons,List.sum_cons,sum_mul c f l,List.map_cons,List.sum_cons,Nat.mul_add]
theorem exprN_len {t:List Nd} {fr:List Nat} (h:Right9 t fr):∀ (m k:Nat),k < m → k < t.length → (exprN t fr k).length + 3 ≤ 16392 * (k + 1 - fr.getD k 0)
 | 0,k,hm,_=>by omega
 | m + 1,k,hm,hk=>by
   have hx:=List.getElem?_eq_getElem hk
   obtain ⟨_,hbk,hle⟩:=h.given.formed.node k _ hx
   have h1:=exprB_len (t:=t) (l:=partsAt t fr k) (e:=exprN t fr) (g:=fun p=>16392 * (p + 1 - fr.getD p 0)) (D:=16384) (ndAt t k)
    (fun p hp=>by have:=h.given.formed.parts_lt hp;exact exprN_len h m p (by omega) (by omega)) (fun s n=>toksE_len _)
   rw [exprN_eq h.given.formed]
   rw [sum_mul,partsAt_is hx,(back_sum hbk).2,start_of h.begins hx] at h1
   rw [partsAt_is hx]
   have:16392 * (k + 1 - fr.getD k 0) = 16392 * (k - fr.getD k 0) + 16392:=by
    rw [← Nat.mul_succ];congr 1;omega
   omega
theorem exprN_short {t:List Nd} {fr:List Nat} (h:Right9 t fr) {k:Nat} (hk:k < t.length):(exprN t fr k).length ≤ 67141632:=by
 have:=exprN_len h (k + 1) k (Nat.lt_succ_self k) hk
 have:=h.given.le
 have h2:16392 * (k + 1 - fr.getD k 0) ≤ 16392 * 4096:=Nat.mul_le_mul_left _ (by omega)
 omega
theorem wordL_len {t:Tok} (h:goodB t = true):(wordL t).length ≤ 16390:=by
 have hs:=good_size h
 have ht:=good_tok h
 have hl:t.text.data.toList.length = t.text.size:=by rw [Array.length_toList];rfl
 unfold wordL
 split
 ·have:=midL_bd t.text.data.toList
  simp only [quoteL,List.length_append,List.length_cons,List.length_nil]
  omega
 ·split
  ·unfold numL
   split
   ·have:=speltL_bd (UInt8.ofNat (t.num + 256).toNat) 39
    simp only [charL,List.length_append,List.length_cons,List.length_nil]
    omega
   ·have:=itoa_bd t.num (by omega) ht.2.1
    split
    ·simp only [List.length_append,List.length_cons,List.length_nil];omega
    ·omega
  ·omega
theorem words_len {L:List Tok} (h:AllG L):(Lib.join (L.map wordL) [32]).length ≤ L.length * 16391:=by
 have:=join_bd 16390 [32] (L.map wordL) (fun x hx=>by
  obtain ⟨t,ht,rfl⟩:=List.mem_map.1 hx
  exact wordL_len (h t ht))
 simpa using this
end Go.Proofs.YtkokdafkjjcgoaaGreatDoor
namespace Go.Proofs.YtkokdafkjjcgoaaGreatDoor
open Go.RowKit
theorem tokE_long {s:ByteArray} (hs:65536 < s.size):tokE s = .bad 0 3:=by unfold tokE;rw [if_pos hs]
theorem tokens_any (s:ByteArray) (w:World) (hE:Env w):Calls Tryz.prog 117 #[.string s] w (Toked w (tokE s)):=by
 by_cases hs:s.size ≤ 65536
 ·exact tokens_in s w hs hE
 ·rw [tokE_long (by omega)];exact tokens_long s w (by omega)
end Go.Proofs.YtkokdafkjjcgoaaGreatDoor
