/- Going over a tree: each place once, a whole ahead of its par · Trees as trees: the tree at a place, its nodes; what is laid · What is laid out of a tree has that tree · Common: the program. · Bytes and alignment of a type, structs being given: the prog · What trees come to: their types, their numbers -/
import Derived.Test.YtlcfejgjeljjdaaGreatDoorMg7
import Derived.Test.YtlcfejgjeljjdaaGreatDoorMg4
namespace Go.Proofs.YtlcfejgjeljjdaaGreatDoor
def startE (fr:List Nat):Nat → Nat → Nat
 | 0,e=>e
 | n + 1,e=>startE fr n (fr.getD (e - 1) 0)
theorem Ends.start {fr:List Nat}:∀ {st:List Nat} {e n:Nat},Ends fr st e → n ≤ st.length → startE fr n e = if 0 < n then st.getD (n - 1) 0 else e
 | _,_,0,_,_=>rfl
 | [],_,n + 1,_,h=>by simp at h
 | s :: st,e,n + 1,⟨_,h2,h3⟩,h=>by
   rw [startE,h2,Ends.start h3 (by simpa using h),if_pos (Nat.succ_pos n)]
   cases n with
   | zero=>rfl
   | succ n=>rw [if_pos (Nat.succ_pos n),Nat.add_sub_cancel,Nat.add_sub_cancel];rfl
theorem begins_start:∀ (l:List Nd) (pre:List Nat) (st:List Nat) {f st':List Nat},beginsF l pre.length st = some (f,st') → Ends pre st pre.length →
 ∀ (j:Nat) x,l[j]? = some x → startE (pre ++ f) x.n.toNat (pre.length + j) = (pre ++ f).getD (pre.length + j) 0
 | [],_,_,_,_,_,_=>fun j x hx=>by simp at hx
 | x :: l,pre,st,f,st',h,he=>by
   have hfull:=begins_back (x :: l) pre st h he
   rw [beginsF] at h
   split at h
   ·cases h
   ·rename_i hn
    simp only [Option.map_eq_some_iff] at h
    obtain ⟨⟨g,st2⟩,hg,e⟩:=h
    obtain ⟨rfl,rfl⟩:=Prod.mk.inj e
    simp only at hg ⊢
    generalize ha:(if 0 < x.n then st.getD (x.n.toNat - 1) 0 else pre.length) = a at *
    have hle:x.n.toNat ≤ st.length:=by omega
    have ha1:a ≤ pre.length:=by
     rw [← ha]
     split
     ·exact Nat.le_of_lt (he.lt _ (by omega))
     ·exact Nat.le_refl _
    have he2:Ends (pre ++ [a]) (a :: st.drop x.n.toNat) (pre ++ [a]).length:=by
     refine ⟨by simp;omega,by simp,?_⟩
     by_cases h0:0 < x.n
     ·rw [if_pos h0] at ha
      rw [← ha]
      exact (he.drop x.n.toNat (by omega) hle).app (by rw [ha];exact ha1)
     ·rw [if_neg h0] at ha
      have:x.n.toNat = 0:=by omega
      rw [this,← ha]
      simpa using he.app (Nat.le_refl _)
    have hl1:(pre ++ [a]).length = pre.length + 1:=by simp
    have h3:=begins_start l (pre ++ [a]) _ (by rw [hl1];exact hg) he2
    have hap:pre ++ [a] ++ g = pre ++ a :: g:=by simp
    rw [hap,hl1] at h3
    intro j y hy
    cases j with
    | zero=>
      obtain rfl:=Option.some.inj hy
      have h4:=(he.app (g:=a :: g) (Nat.le_refl _)).start (n:=x.n.toNat) hle
      rw [Nat.add_zero,h4]
      have h5:(pre ++ a :: g).getD pre.length 0 = a:=by rw [List.getD_eq_getElem?_getD,List.getElem?_append_right (Nat.le_refl _),Nat.sub_self];rfl
      rw [h5,← ha]
      by_cases h0:0 < x.n
      ·rw [if_pos (by omega),if_pos h0]
      ·rw [if_neg (by omega),if_neg h0]
    | succ j=>
      have:=h3 j y (by simpa using hy)
      rw [show pre.length + (j + 1) = pre.length + 1 + j by omega]
      exact this
theorem start_of {t:List Nd} {fr:List Nat} (h:beginsN t = some fr) {j:Nat} {x:Nd} (hx:t[j]? = some x):startE fr x.n.toNat j = fr.getD j 0:=by
 unfold beginsN at h
 split at h
 ·rename_i f s hb
  obtain rfl:=Option.some.inj h
  have:=begins_start t [] [] hb trivial j x hx
  simpa using this
 ·cases h
theorem begins_low:∀ (l:List Nd) (i:Nat) (st:List Nat) {f st':List Nat},beginsF l i st = some (f,st') → (st ≠ [] → st.getLast? = some 0) → (st = [] → i = 0) → st' ≠ [] → st'.getLast? = some 0
 | [],i,st,f,st',h,h1,_,h3=>by
   rw [beginsF] at h
   obtain ⟨_,rfl⟩:=Prod.mk.inj (Option.some.inj h)
   exact h1 h3
 | x :: l,i,st,f,st',h,h1,h2,h3=>by
   rw [beginsF] at h
   split at h
   ·cases h
   ·rename_i hn
    simp only [Option.map_eq_some_iff] at h
    obtain ⟨⟨g,st2⟩,hg,e⟩:=h
    obtain ⟨_,rfl⟩:=Prod.mk.inj e
    refine begins_low l (i + 1) _ hg (fun _=>?_) (fun h=>by cases h) h3
    by_cases hs:st = []
    ·subst hs
     have:x.n.toNat = 0:=by simp at hn;omega
     rw [this,if_neg (by simp at hn;omega),h2 rfl]
     rfl
    ·have hl:=h1 hs
     rcases Nat.lt_or_ge x.n.toNat st.length with h' | h'
     ·have hd:st.drop x.n.toNat ≠ []:=by simp;omega
      rw [List.getLast?_cons_of_ne_nil hd,List.getLast?_drop,if_neg (by omega)]
      exact hl
     ·have hd:st.drop x.n.toNat = []:=by simp;omega
      have hpos:0 < st.length:=List.length_pos_iff.2 hs
      rw [hd,if_pos (by omega)]
      rw [List.getLast?_eq_getElem?] at hl
      have e1:x.n.toNat - 1 = st.length - 1:=by omega
      rw [List.getD_eq_getElem?_getD,e1,hl]
      rfl
theorem begins_ends {t:List Nd} {fr:List Nat} (h:beginsN t = some fr):fr.getD (t.length - 1) 0 = 0:=by
 unfold beginsN at h
 split at h
 ·rename_i f s hb
  obtain rfl:=Option.some.inj h
  obtain ⟨_,h2,_⟩:=begins_back t [] [] hb trivial
  simp only [List.nil_append,List.length_nil,Nat.zero_add] at h2
  have h3:=begins_low t 0 [] hb (fun h=>absurd rfl h) (fun _=>rfl) (by simp)
  simp at h3
  rw [h2.2.1,h3]
 ·cases h
theorem back_sum {fr:List Nat}:∀ {n e:Nat},Back fr n e → startE fr n e ≤ e ∧ ((partsE fr n e).map fun p=>p + 1 - fr.getD p 0).sum = e - startE fr n e
 | 0,e,_=>⟨Nat.le_refl _,by simp [partsE,startE]⟩
 | n + 1,e,⟨h1,h2,h3⟩=>by
   obtain ⟨a,b⟩:=back_sum h3
   refine ⟨by rw [startE];omega,?_⟩
   rw [partsE,List.map_append,List.sum_append,b,startE]
   simp only [List.map_cons,List.map_nil,List.sum_cons,List.sum_nil]
   omega
end Go.Proofs.YtlcfejgjeljjdaaGreatDoor
namespace Go.Proofs.YtlcfejgjeljjdaaGreatDoor
inductive Tr where
 | node (x:Nd) (ps:List Tr)
def Tr.root:Tr → Nd
 | .node x _=>x
def Tr.parts:Tr → List Tr
 | .node _ ps=>ps
def nd0:Nd:=⟨0,0,0,0,⟨#[]⟩,⟨#[]⟩⟩
mutual
def Tr.flat:Tr → List Nd
 | .node x ps=>flatAll ps ++ [x]
def flatAll:List Tr → List Nd
 | []=>[]
 | T :: r=>T.flat ++ flatAll r
end
mutual
def Tr.right:Tr → Prop
 | .node x ps=>x.n = (ps.length:Int) ∧ rightAll ps
def rightAll:List Tr → Prop
 | []=>True
 | T :: r=>T.right ∧ rightAll r
end
theorem flatAll_append:∀ (a b:List Tr),flatAll (a ++ b) = flatAll a ++ flatAll b
 | [],_=>rfl
 | T :: r,b=>by rw [List.cons_append,flatAll,flatAll,flatAll_append r b,List.append_assoc]
def trF (t:List Nd) (fr:List Nat):Nat → Nat → Tr
 | 0,k=>.node (t.getD k nd0) []
 | m + 1,k=>.node (t.getD k nd0) ((partsAt t fr k).map (trF t fr m))
def trAt (t:List Nd) (fr:List Nat) (k:Nat):Tr:=trF t fr (k + 1) k
theorem trF_more {t:List Nd} {fr:List Nat} (h:Formed t fr):∀ (m k:Nat),k < m → trF t fr m k = trF t fr (k + 1) k
 | 0,k,hk=>by omega
 | m + 1,k,hk=>by
   rw [trF,trF]
   congr 1
   refine List.map_congr_left fun p hp=>?_
   have:=h.parts_lt hp
   rw [trF_more h m p (by omega),trF_more h k p (by omega)]
theorem trAt_eq {t:List Nd} {fr:List Nat} (h:Formed t fr) (k:Nat):trAt t fr k = .node (t.getD k nd0) ((partsAt t fr k).map (trAt t fr)):=by
 unfold trAt
 rw [trF]
 congr 1
 refine List.map_congr_left fun p hp=>?_
 rw [trF_more h k p (h.parts_lt hp)]
def segN (t:List Nd) (a b:Nat):List Nd:=(t.drop a).take (b - a)
theorem segN_join (t:List Nd) {a b c:Nat} (h1:a ≤ b) (h2:b ≤ c):segN t a b ++ segN t b c = segN t a c:=by
 unfold segN
 rw [show c - a = (b - a) + (c - b) by omega,List.take_add,List.drop_drop,show a + (b - a) = b by omega]
theorem segN_one {t:List Nd} {k:Nat} (h:k < t.length):segN t k (k + 1) = [t.getD k nd0]:=by
 unfold segN
 have h1:t.getD k nd0 = t[k]:=by simp [List.getD,h]
 rw [h1,show k + 1 - k = 1 by omega,List.drop_eq_getElem_cons h,List.take_succ_cons,List.take_zero]
theorem back_flat {t:List Nd} {fr:List Nat}:∀ {n e:Nat},Back fr n e → (∀ p,p < e → fr.getD p 0 ≤ p → (trAt t fr p).flat = segN t (fr.getD p 0) (p + 1)) → flatAll ((partsE fr n e).map (trAt t fr)) = segN t (startE fr n e) e
 | 0,e,_,_=>by simp [partsE,startE,flatAll,segN]
 | n + 1,e,⟨h1,h2,h3⟩,ih=>by
   have hb:=back_flat (t:=t) h3 (fun p hp=>ih p (by omega))
   rw [partsE,List.map_append,flatAll_append,hb,startE]
   simp only [List.map_cons,List.map_nil,flatAll,List.append_nil]
   rw [ih (e - 1) (by omega) (by omega),show e - 1 + 1 = e by omega]
   exact segN_join t (back_sum h3).1 (by omega)
theorem flatT_at {t:List Nd} {fr:List Nat} (hb:beginsN t = some fr):∀ (k:Nat),k < t.length → (trAt t fr k).flat = segN t (fr.getD k 0) (k + 1):=by
 have hF:=formed_of hb
 intro k
 induction k using Nat.strongRecOn with
 | ind k ih=>
   intro hk
   have hx:=List.getElem?_eq_getElem hk
   obtain ⟨_,h2,h3⟩:=hF.node k _ hx
   have h4:=start_of hb hx
   rw [trAt_eq hF,Tr.flat,partsAt_is hx,back_flat h2 (fun p hp _=>ih p hp (by omega)),h4,← segN_one hk]
   exact segN_join t h3 (by omega)
theorem flat_whole {t:List Nd} {fr:List Nat} (hb:beginsN t = some fr):(trAt t fr (t.length - 1)).flat = t:=by
 have hF:=formed_of hb
 have hp:=hF.pos
 rw [flatT_at hb _ (by omega),begins_ends hb,show t.length - 1 + 1 = t.length by omega]
 unfold segN
 simp
theorem right_at {t:List Nd} {fr:List Nat} (hF:Formed t fr):∀ (k:Nat),k < t.length → (trAt t fr k).right:=by
 have hall:∀ (L:List Nat),(∀ p ∈ L,(trAt t fr p).right) → rightAll (L.map (trAt t fr)):=by
  intro L
  induction L with
  | nil=>intro _;trivial
  | cons p r ih=>intro h;exact ⟨h p List.mem_cons_self,ih fun q hq=>h q (List.mem_cons_of_mem _ hq)⟩
 intro k
 induction k using Nat.strongRecOn with
 | ind k ih=>
   intro hk
   have hx:=List.getElem?_eq_getElem hk
   obtain ⟨h1,h2,_⟩:=hF.node k _ hx
   rw [trAt_eq hF,Tr.right]
   refine ⟨?_,hall _ fun p hp=>?_⟩
   ·rw [List.length_map,partsAt_is hx,partsE_length]
    rw [show t.getD k nd0 = t[k] from by simp [List.getD,hk]]
    omega
   ·have:=hF.parts_lt hp
    exact ih p this (by omega)
end Go.Proofs.YtlcfejgjeljjdaaGreatDoor
namespace Go.Proofs.YtlcfejgjeljjdaaGreatDoor
theorem flat_pos (T:Tr):0 < T.flat.length:=by
 cases T with
 | node x ps=>rw [Tr.flat];simp
theorem flat_mem_lt {x:Nd} {ps:List Tr} {T:Tr} (h:T ∈ ps):T.flat.length < (Tr.node x ps).flat.length:=by
 rw [Tr.flat,List.length_append]
 have key:∀ (ps:List Tr),T ∈ ps → T.flat.length ≤ (flatAll ps).length:=by
  intro ps
  induction ps with
  | nil=>intro h;cases h
  | cons S r ih=>
    intro h
    rw [flatAll,List.length_append]
    rcases List.mem_cons.1 h with rfl | h
    ·omega
    ·have:=ih h;omega
 have:=key ps h
 simp
 omega
theorem tr_induct {P:Tr → Prop} (h:∀ x ps,(∀ T ∈ ps,P T) → P (.node x ps)) (T:Tr):P T:=by
 have key:∀ n,∀ T:Tr,T.flat.length ≤ n → P T:=by
  intro n
  induction n with
  | zero=>intro T hT;have:=flat_pos T;omega
  | succ n ih=>
    intro T hT
    cases T with
    | node x ps=>exact h x ps fun S hS=>ih S (by have:=flat_mem_lt (x:=x) hS;omega)
 exact key _ T (Nat.le_refl _)
mutual
def Tr.frs:Tr → Nat → List Nat
 | .node _ ps,i=>frsAll ps i ++ [i]
def frsAll:List Tr → Nat → List Nat
 | [],_=>[]
 | T :: r,i=>T.frs i ++ frsAll r (i + T.flat.length)
end
theorem frsAll_append:∀ (a b:List Tr) (i:Nat),frsAll (a ++ b) i = frsAll a i ++ frsAll b (i + (flatAll a).length)
 | [],b,i=>by simp [frsAll,flatAll]
 | T :: r,b,i=>by
   rw [List.cons_append,frsAll,frsAll,frsAll_append r b,flatAll,List.length_append,List.append_assoc,Nat.add_assoc]
theorem frsAll_len {ps:List Tr} (h:∀ T ∈ ps,∀ i,(T.frs i).length = T.flat.length):∀ i,(frsAll ps i).length = (flatAll ps).length:=by
 induction ps with
 | nil=>intro i;rfl
 | cons T r ih=>intro i;rw [frsAll,flatAll,List.length_append,List.length_append,h T List.mem_cons_self,ih fun S hS=>h S (List.mem_cons_of_mem _ hS)]
theorem frs_len (T:Tr):∀ i,(T.frs i).length = T.flat.length:=by
 refine tr_induct (P:=fun T=>∀ i,(T.frs i).length = T.flat.length) (fun x ps h i=>?_) T
 rw [Tr.frs,Tr.flat,List.length_append,List.length_append,frsAll_len h]
 rfl
theorem rightAll_mem {ps:List Tr} (h:rightAll ps) {T:Tr} (hT:T ∈ ps):T.right:=by
 induction ps with
 | nil=>cases hT
 | cons S r ih=>
   rw [rightAll] at h
   rcases List.mem_cons.1 hT with rfl | hT
   ·exact h.1
   ·exact ih h.2 hT
def stackE:List Tr → Nat → List Nat → List Nat
 | [],_,st=>st
 | T :: r,i,st=>stackE r (i + T.flat.length) (i :: st)
theorem stackE_drop:∀ (ps:List Tr) (i:Nat) (st:List Nat),(stackE ps i st).length = ps.length + st.length ∧ (stackE ps i st).drop ps.length = st ∧ (0 < ps.length → (stackE ps i st).getD (ps.length - 1) 0 = i)
 | [],i,st=>⟨by simp [stackE],by simp [stackE],fun h=>by simp at h⟩
 | T :: r,i,st=>by
   obtain ⟨h1,h2,h3⟩:=stackE_drop r (i + T.flat.length) (i :: st)
   rw [stackE]
   refine ⟨by rw [h1];simp;omega,?_,fun _=>?_⟩
   ·rw [List.length_cons,← List.drop_drop,h2]
    rfl
   ·rw [List.length_cons,Nat.add_sub_cancel,List.getD_eq_getElem?_getD]
    have h4:(stackE r (i + T.flat.length) (i :: st))[r.length]? = ((stackE r (i + T.flat.length) (i :: st)).drop r.length)[0]?:=by rw [List.getElem?_drop,Nat.add_zero]
    rw [h4,h2]
    rfl
theorem begins_all {ps:List Tr} (h:∀ T ∈ ps,∀ (i:Nat) (st:List Nat) (l:List Nd),beginsF (T.flat ++ l) i st = (beginsF l (i + T.flat.length) (i :: st)).map fun r=>(T.frs i ++ r.1,r.2)) :
 ∀ (i:Nat) (st:List Nat) (l:List Nd),beginsF (flatAll ps ++ l) i st = (beginsF l (i + (flatAll ps).length) (stackE ps i st)).map fun r=>(frsAll ps i ++ r.1,r.2):=by
 induction ps with
 | nil=>
   intro i st l
   rw [flatAll,stackE]
   simp only [List.nil_append,frsAll,List.length_nil,Nat.add_zero]
   cases beginsF l i st <;> rfl
 | cons T r ih=>
   intro i st l
   rw [flatAll,List.append_assoc,h T List.mem_cons_self,ih (fun S hS=>h S (List.mem_cons_of_mem _ hS)),stackE,frsAll,List.length_append,Nat.add_assoc,Option.map_map]
   congr 1
   funext r'
   simp [List.append_assoc]
theorem begins_flat (T:Tr):T.right → ∀ (i:Nat) (st:List Nat) (l:List Nd),beginsF (T.flat ++ l) i st = (beginsF l (i + T.flat.length) (i :: st)).map fun r=>(T.frs i ++ r.1,r.2):=by
 refine tr_induct (P:=fun T=>T.right → ∀ (i:Nat) (st:List Nat) (l:List Nd),beginsF (T.flat ++ l) i st = (beginsF l (i + T.flat.length) (i :: st)).map fun r=>(T.frs i ++ r.1,r.2)) (fun x ps ih hr i st l=>?_) T
 rw [Tr.right] at hr
 obtain ⟨hn,hra⟩:=hr
 obtain ⟨h1,h2,h3⟩:=stackE_drop ps i st
 have hnn:x.n.toNat = ps.length:=by omega
 rw [Tr.flat,List.append_assoc,begins_all (fun S hS=>ih S hS (rightAll_mem hra hS)),List.singleton_append,beginsF,if_neg (by rw [h1];omega)]
 have ha:(if 0 < x.n then (stackE ps i st).getD (x.n.toNat - 1) 0 else i + (flatAll ps).length) = i:=by
  split
  ·rw [hnn];exact h3 (by omega)
  ·have h0:ps = []:=List.eq_nil_of_length_eq_zero (by omega)
   rw [h0];simp [flatAll]
 simp only [ha]
 rw [hnn,h2,Option.map_map,List.length_append]
 simp only [List.length_cons,List.length_nil,Nat.zero_add]
 rw [Nat.add_assoc]
 congr 1
 funext r'
 simp [Tr.frs]
theorem begins_whole {T:Tr} (h:T.right):beginsN T.flat = some (T.frs 0):=by
 have h1:=begins_flat T h 0 [] []
 rw [List.append_nil] at h1
 unfold beginsN
 rw [h1]
 simp [beginsF]
theorem rev_induct {α:Type} {P:List α → Prop} (h0:P []) (h1:∀ qs T,P qs → P (qs ++ [T])) (l:List α):P l:=by
 have key:∀ r:List α,P r.reverse:=by
  intro r
  induction r with
  | nil=>exact h0
  | cons a r ih=>rw [List.reverse_cons];exact h1 _ _ ih
 have:=key l.reverse
 rwa [List.reverse_reverse] at this
def Stands (t:List Nd) (fr:List Nat) (T:Tr) (i:Nat):Prop:=(∀ j y,T.flat[j]? = some y → t[i + j]? = some y) ∧ ∀ j y,(T.frs i)[j]? = some y → fr[i + j]? = some y
def StandsAll (t:List Nd) (fr:List Nat) (ps:List Tr) (i:Nat):Prop:=(∀ j y,(flatAll ps)[j]? = some y → t[i + j]? = some y) ∧ ∀ j y,(frsAll ps i)[j]? = some y → fr[i + j]? = some y
theorem standsAll_split {t:List Nd} {fr:List Nat} {qs:List Tr} {T:Tr} {i:Nat} (h:StandsAll t fr (qs ++ [T]) i):StandsAll t fr qs i ∧ Stands t fr T (i + (flatAll qs).length):=by
 obtain ⟨h1,h2⟩:=h
 rw [flatAll_append] at h1
 rw [frsAll_append] at h2
 have hl:=frsAll_len (fun S (_:S ∈ qs) i=>frs_len S i) i
 refine ⟨⟨fun j y hj=>h1 j y ?_,fun j y hj=>h2 j y ?_⟩,fun j y hj=>?_,fun j y hj=>?_⟩
 ·rw [List.getElem?_append_left (List.getElem?_eq_some_iff.1 hj).1];exact hj
 ·rw [List.getElem?_append_left (List.getElem?_eq_some_iff.1 hj).1];exact hj
 ·rw [Nat.add_assoc]
  refine h1 _ y ?_
  rw [List.getElem?_append_right (by omega),Nat.add_sub_cancel_left]
  simpa [flatAll] using hj
 ·rw [Nat.add_assoc]
  refine h2 _ y ?_
  rw [List.getElem?_append_right (by omega),hl,Nat.add_sub_cancel_left]
  simpa [frsAll] using hj
theorem stands_last {t:List Nd} {fr:List Nat} {T:Tr} {i:Nat} (h:Stands t fr T i):fr.getD (i + T.flat.length - 1) 0 = i:=by
 cases T with
 | node x ps=>
   have hl:=frsAll_len (fun S (_:S ∈ ps) i=>frs_len S i) i
   have h2:=h.2 (flatAll ps).length i (by rw [Tr.frs,List.getElem?_append_right (by omega),hl,Nat.sub_self];rfl)
   rw [Tr.flat,List.length_append,List.length_cons,List.length_nil,show i + ((flatAll ps).length + (0 + 1)) - 1 = i + (flatAll ps).length by omega,List.getD_eq_getElem?_getD,h2]
   rfl
theorem parts_stand {t:List Nd} {fr:List Nat} {m:Nat}:∀ (ps:List Tr) (i:Nat),StandsAll t fr ps i → (∀ T ∈ ps,∀ i,Stands t fr T i → trF t fr m (i + T.flat.length - 1) = T) → (partsE fr ps.length (i + (flatAll ps).length)).map (trF t fr m) = ps:=by
 intro ps
 refine rev_induct (P:=fun ps=>∀ (i:Nat),StandsAll t fr ps i → (∀ T ∈ ps,∀ i,Stands t fr T i → trF t fr m (i + T.flat.length - 1) = T) → (partsE fr ps.length (i + (flatAll ps).length)).map (trF t fr m) = ps) (fun i _ _=>rfl) (fun qs T ih i hS hT=>?_) ps
 ·obtain ⟨h1,h2⟩:=standsAll_split hS
  have hT1:=hT T (by simp) _ h2
  have hl:=stands_last h2
  have hp:=flat_pos T
  rw [List.length_append,List.length_cons,List.length_nil,Nat.zero_add,partsE,flatAll_append,List.length_append,← Nat.add_assoc]
  simp only [flatAll,List.append_nil]
  rw [hl,List.map_append,ih i h1 fun S hS=>hT S (by simp [hS])]
  simp only [List.map_cons,List.map_nil]
  rw [hT1]
theorem stands_tr {t:List Nd} {fr:List Nat} (T:Tr):T.right → ∀ (m i:Nat),T.flat.length ≤ m → Stands t fr T i → trF t fr m (i + T.flat.length - 1) = T:=by
 refine tr_induct (P:=fun T=>T.right → ∀ (m i:Nat),T.flat.length ≤ m → Stands t fr T i → trF t fr m (i + T.flat.length - 1) = T) (fun x ps ih hr m i hm hS=>?_) T
 rw [Tr.right] at hr
 obtain ⟨hn,hra⟩:=hr
 have hlen:(Tr.node x ps).flat.length = (flatAll ps).length + 1:=by rw [Tr.flat];simp
 have hk:i + (Tr.node x ps).flat.length - 1 = i + (flatAll ps).length:=by omega
 have hx:t[i + (flatAll ps).length]? = some x:=hS.1 _ x (by rw [Tr.flat,List.getElem?_append_right (Nat.le_refl _),Nat.sub_self];rfl)
 have hA:StandsAll t fr ps i:=⟨fun j y hj=>hS.1 j y (by rw [Tr.flat,List.getElem?_append_left (List.getElem?_eq_some_iff.1 hj).1];exact hj),fun j y hj=>hS.2 j y (by rw [Tr.frs,List.getElem?_append_left (List.getElem?_eq_some_iff.1 hj).1];exact hj)⟩
 cases m with
 | zero=>omega
 | succ m=>
   rw [hk,trF,partsAt_is hx,show x.n.toNat = ps.length by omega]
   have hg:t.getD (i + (flatAll ps).length) nd0 = x:=by rw [List.getD_eq_getElem?_getD,hx];rfl
   rw [hg]
   congr 1
   exact parts_stand ps i hA fun S hSm j hj=>ih S hSm (rightAll_mem hra hSm) m j (by have:=flat_mem_lt (x:=x) hSm;omega) hj
theorem tr_back {T:Tr} (h:T.right):trAt T.flat (T.frs 0) (T.flat.length - 1) = T:=by
 have hS:Stands T.flat (T.frs 0) T 0:=⟨fun j y hj=>by rw [Nat.zero_add];exact hj,fun j y hj=>by rw [Nat.zero_add];exact hj⟩
 have hp:=flat_pos T
 have:=stands_tr (t:=T.flat) (fr:=T.frs 0) T h T.flat.length 0 (Nat.le_refl _) hS
 rw [Nat.zero_add] at this
 unfold trAt
 rw [show T.flat.length - 1 + 1 = T.flat.length by omega]
 exact this
end Go.Proofs.YtlcfejgjeljjdaaGreatDoor
namespace Go.Proofs.YtlcfejgjeljjdaaGreatDoor
open Go.RowKit
theorem common_no1 {a b:Option Ty} (h:a = none ∨ b = none):commonV a b = .tuple #[.string ⟨#[]⟩,.int .i64 2]:=by
 rcases h with rfl | rfl
 ·rfl
 ·cases a <;> rfl
theorem common_no2 {t u:Ty} (h:isIntT t = false ∨ isIntT u = false):commonV (some t) (some u) = .tuple #[.string ⟨#[]⟩,.int .i64 5]:=by
 rcases h with h | h <;> simp [commonV,h]
theorem common_u {t u:Ty} (h1:isIntT t = true) (h2:isIntT u = true) (h:isC 117 t = true ∨ isC 117 u = true):commonV (some t) (some u) = .tuple #[.string (tyB (.base 117)),.int .i64 0]:=by
 rcases h with h | h <;> simp [commonV,h1,h2,h]
theorem common_i {t u:Ty} (h1:isIntT t = true) (h2:isIntT u = true) (h3:isC 117 t = false) (h4:isC 117 u = false):commonV (some t) (some u) = .tuple #[.string (tyB (.base 105)),.int .i64 0]:=by
 simp [commonV,h1,h2,h3,h4]
set_option maxHeartbeats 2000000 in
theorem common_ok (a b:ByteArray) (w:World) (hE:TE w):Calls Tryz.prog 59 #[.string a,.string b] w fun e w'=>e = .returned (commonV (tyS a) (tyS b)) ∧ Below w.heap.size w w':=by
 have HE:=Hd hE
 rcases ha:tyS a with _ | t
 ·have HF:=Hd (form_is false a w hE (by rw [ha];rfl))
  have hfin:=Hd (common_no1 (a:=none) (b:=tyS b) (.inl rfl))
  clear ha hE
  go_enter Tryz.func59,Tryz.ntmps59
  go_wp2_with (go_at_call 90;(with_reducible refine HF.out.mono ?_);rintro e w1 ⟨rfl,hb1⟩)
  go_ret2
  exact ⟨tup_eq hfin.out.symm,hb1⟩
 ·have HF:=Hd (form_is true a w hE (by rw [ha];rfl))
  rcases hb:tyS b with _ | u
  ·have HG:=Hd (fun w hE=>form_is false b w hE (by rw [hb];rfl))
   have hfin:=Hd (common_no1 (a:=some t) (b:=none) (.inr rfl))
   clear ha hb hE
   go_enter Tryz.func59,Tryz.ntmps59
   go_wp2_with (go_at_call 90;(with_reducible refine HF.out.mono ?_))
   rintro e w1 ⟨rfl,hb1⟩
   go_wp2_with (go_at_call 90;(with_reducible refine (HG.out _ (HE.out.below hb1)).mono ?_))
   rintro e w2 ⟨rfl,hb2⟩
   go_wp2_with fail
   go_ret2
   exact ⟨tup_eq hfin.out.symm,hb1.trans (hb2.mono hb1.size)⟩
  ·have HG:=Hd (fun w hE=>form_is true b w hE (by rw [hb];rfl))
   have ia:isIntS a = isIntT t:=by unfold isIntS;rw [ha];rfl
   have ib:isIntS b = isIntT u:=by unfold isIntS;rw [hb];rfl
   obtain ⟨ea,ra,_⟩:=tyS_some.1 ha
   obtain ⟨eb,rb,_⟩:=tyS_some.1 hb
   have ua:(a.toList == [117]) = isC 117 t:=by rw [ea];exact one_is ra 117
   have ub:(b.toList == [117]) = isC 117 u:=by rw [eb];exact one_is rb 117
   rcases h1:isIntT t with _ | _
   ·have HI:=Hd (ia.trans h1)
    have hfin:=Hd (common_no2 (t:=t) (u:=u) (.inl h1))
    clear ha hb hE ia ib ea eb ra rb ua ub h1
    go_enter Tryz.func59,Tryz.ntmps59
    go_wp2_with (go_at_call 90;(with_reducible refine HF.out.mono ?_))
    rintro e w1 ⟨rfl,hb1⟩
    go_wp2_with (go_at_call 90;(with_reducible refine (HG.out _ (HE.out.below hb1)).mono ?_))
    rintro e w2 ⟨rfl,hb2⟩
    go_wp2_with (go_at_call 28;(with_reducible refine (isInt_is _ a _ HI.out).mono ?_);rintro e w3 ⟨rfl,rfl⟩)
    go_ret2
    exact ⟨tup_eq hfin.out.symm,hb1.trans (hb2.mono hb1.size)⟩
   ·have HI:=Hd (ia.trans h1)
    rcases h2:isIntT u with _ | _
    ·have HJ:=Hd (ib.trans h2)
     have hfin:=Hd (common_no2 (t:=t) (u:=u) (.inr h2))
     clear ha hb hE ia ib ea eb ra rb ua ub h1 h2
     go_enter Tryz.func59,Tryz.ntmps59
     go_wp2_with (go_at_call 90;(with_reducible refine HF.out.mono ?_))
     rintro e w1 ⟨rfl,hb1⟩
     go_wp2_with (go_at_call 90;(with_reducible refine (HG.out _ (HE.out.below hb1)).mono ?_))
     rintro e w2 ⟨rfl,hb2⟩
     go_wp2_with (go_at_call 28;(with_reducible refine (isInt_is _ a _ HI.out).mono ?_))
     rintro e w3 ⟨rfl,rfl⟩
     go_wp2_with (go_at_call 28;(with_reducible refine (isInt_is _ b _ HJ.out).mono ?_);rintro e w3 ⟨rfl,rfl⟩)
     go_ret2
     exact ⟨tup_eq hfin.out.symm,hb1.trans (hb2.mono hb1.size)⟩
    ·have HJ:=Hd (ib.trans h2)
     rcases h3:isC 117 t with _ | _
     ·rcases h4:isC 117 u with _ | _
      ·have hfin:=Hd (common_i h1 h2 h3 h4)
       rw [h3] at ua;rw [h4] at ub
       clear ha hb hE ia ib ea eb ra rb h1 h2 h3 h4
       go_enter Tryz.func59,Tryz.ntmps59
       go_wp2_with (go_at_call 90;(with_reducible refine HF.out.mono ?_))
       rintro e w1 ⟨rfl,hb1⟩
       go_wp2_with (go_at_call 90;(with_reducible refine (HG.out _ (HE.out.below hb1)).mono ?_))
       rintro e w2 ⟨rfl,hb2⟩
       go_wp2_with (go_at_call 28;(with_reducible refine (isInt_is _ a _ HI.out).mono ?_))
       rintro e w3 ⟨rfl,rfl⟩
       go_wp2_with (go_at_call 28;(with_reducible refine (isInt_is _ b _ HJ.out).mono ?_);rintro e w3 ⟨rfl,rfl⟩)
       go_ret2
       exact ⟨tup_eq hfin.out.symm,hb1.trans (hb2.mono hb1.size)⟩
      ·have hfin:=Hd (common_u h1 h2 (.inr h4))
       rw [h3] at ua;rw [h4] at ub
       clear ha hb hE ia ib ea eb ra rb h1 h2 h3 h4
       go_enter Tryz.func59,Tryz.ntmps59
       go_wp2_with (go_at_call 90;(with_reducible refine HF.out.mono ?_))
       rintro e w1 ⟨rfl,hb1⟩
       go_wp2_with (go_at_call 90;(with_reducible refine (HG.out _ (HE.out.below hb1)).mono ?_))
       rintro e w2 ⟨rfl,hb2⟩
       go_wp2_with (go_at_call 28;(with_reducible refine (isInt_is _ a _ HI.out).mono ?_))
       rintro e w3 ⟨rfl,rfl⟩
       go_wp2_with (go_at_call 28;(with_reducible refine (isInt_is _ b _ HJ.out).mono ?_);rintro e w3 ⟨rfl,rfl⟩)
       go_ret2
       exact ⟨tup_eq hfin.out.symm,hb1.trans (hb2.mono hb1.size)⟩
     ·have hfin:=Hd (common_u h1 h2 (.inl h3))
      rw [h3] at ua
      clear ha hb hE ia ib ea eb ra rb ub h1 h2 h3
      go_enter Tryz.func59,Tryz.ntmps59
      go_wp2_with (go_at_call 90;(with_reducible refine HF.out.mono ?_))
      rintro e w1 ⟨rfl,hb1⟩
      go_wp2_with (go_at_call 90;(with_reducible refine (HG.out _ (HE.out.below hb1)).mono ?_))
      rintro e w2 ⟨rfl,hb2⟩
      go_wp2_with (go_at_call 28;(with_reducible refine (isInt_is _ a _ HI.out).mono ?_))
      rintro e w3 ⟨rfl,rfl⟩
      go_wp2_with (go_at_call 28;(with_reducible refine (isInt_is _ b _ HJ.out).mono ?_);rintro e w3 ⟨rfl,rfl⟩)
      go_ret2
      exact ⟨tup_eq hfin.out.symm,hb1.trans (hb2.mono hb1.size)⟩
end Go.Proofs.YtlcfejgjeljjdaaGreatDoor
namespace Go.Proofs.YtlcfejgjeljjdaaGreatDoor
open Go.RowKit Go.Maps
def sizeR (L:List Sr) (s:ByteArray):Int × Int × Int:=match learnK L with
 | .inl p=>(0,0,p.2)
 | .inr K=>match tyS s with
   | none=>(0,0,2)
   | some t=>if checkT K t ≠ 0 then (0,0,checkT K t) else if objectT t = false then (0,0,5) else (((measT K t).1:Int),((measT K t).2:Int),0)
theorem sizeR_struct {L:List Sr} {s:ByteArray} {i:Nat} {c:Int} (h:learnK L = .inl (i,c)):sizeR L s = (0,0,c):=by unfold sizeR;rw [h]
theorem sizeR_check {L:List Sr} {s:ByteArray} {K:List Kn} (h:learnK L = .inr K) (hc:checkS K s ≠ 0):sizeR L s = (0,0,checkS K s):=by
 unfold sizeR;rw [h]
 cases ht:tyS s with
 | none=>rw [checkS_none ht]
 | some t=>rw [checkS_some ht] at hc ⊢;simp only;rw [if_pos hc]
theorem sizeR_object {L:List Sr} {s:ByteArray} {K:List Kn} {t:Ty} (h:learnK L = .inr K) (ht:tyS s = some t) (hc:checkT K t = 0) (ho:objectT t = false):sizeR L s = (0,0,5):=by
 unfold sizeR;rw [h,ht]
 simp only
 rw [if_neg (by simp [hc]),if_pos ho]
theorem sizeR_yes {L:List Sr} {s:ByteArray} {K:List Kn} {t:Ty} (h:learnK L = .inr K) (ht:tyS s = some t) (hc:checkT K t = 0) (ho:objectT t = true):sizeR L s = (((measT K t).1:Int),((measT K t).2:Int),0):=by
 unfold sizeR;rw [h,ht]
 simp only
 rw [if_neg (by simp [hc]),if_neg (by simp [ho])]
def MeasEnd (mv:List Value) (L:List Sr) (s:ByteArray) (w:World) (e:Ending) (w':World):Prop:=
 Below w.heap.size w w' ∧ ((∃ c:Int,sizeR L s = (0,0,c) ∧ c ≠ 0 ∧ e = .returned (.tuple #[.pointer none,.int .i64 c])) ∨
  ∃ K t b mb lv sv av,learnK L = .inr K ∧ tyS s = some t ∧ checkT K t = 0 ∧ objectT t = true ∧ FitK K ∧ KnAt (w.heap.size + 1) w' b mb lv sv av mv K ∧ e = .returned (.tuple #[.pointer (some ⟨b,0,none⟩),.int .i64 0]))
theorem meas_no {mv:List Value} {L:List Sr} {s:ByteArray} {w w':World} {c:Int} (h:sizeR L s = (0,0,c)) (hc:c ≠ 0) (hb:Below w.heap.size w w') :
 MeasEnd mv L s w (.returned (.tuple #[.pointer none,.int .i64 c])) w':=⟨hb,.inl ⟨c,h,hc,rfl⟩⟩
set_option maxRecDepth 100000 in
set_option maxHeartbeats 4000000 in
theorem measured_ok (s:ByteArray) (a:Option Addr) (cap:Nat) (L:List Sr) (mv:List Value) (w:World) (hE:TE w) (hS:IsSrs w.heap.size w a L mv) :
 Calls Tryz.prog 102 #[.string s,.slice a L.length cap] w fun e w'=>MeasEnd mv L s w e w':=by
 have HE:=Hd hE
 have HL:=Hd (learn_ok a cap L mv w hE hS)
 clear hE hS
 go_enter Tryz.func102,Tryz.ntmps102
 go_wp2_with (go_at_call 78;(with_reducible refine HL.out.mono ?_))
 intro e w1 hend
 obtain ⟨hb1,⟨i,c,hl,hc,rfl⟩ | ⟨K,b,mb,lv,sv,av,hl,rfl,hF,hkn⟩⟩:=hend
 ·have hfin:=Hd (sizeR_struct (s:=s) hl)
  have HC:=Hd hc
  have t1:(c != 0) = true:=by simp [hc]
  have HB1:=Hd hb1
  clear hl hc hb1
  go_wp2_with fail
  go_quiet (fail)
  go_wp2
  go_ret2
  exact meas_no hfin.out HC.out (blw_drewN (HB1.out.alloc HB1.out.size _) _)
 ·have HB1:=Hd hb1
  have hg:Below (w1.heap.size) w1 (w1.alloc (.cells #[.int .i64 0,.int .i64 0] 77)):=(Below.refl _ _).alloc (Nat.le_refl _) _
  have HG:=Hd (hb1.trans (hg.mono hb1.size))
  have HKn:=Hd (hkn.below hg)
  have HC:=Hd (check_ok s _ (HE.out.below HG.out) HKn.out hF)
  have HFt:=Hd hF
  have HLk:=Hd hl
  clear hkn hb1 hg hF hl
  by_cases hc:checkS K s = 0
  ·obtain ⟨t,ht⟩:∃ t,tyS s = some t:=by
    cases ht:tyS s with
    | none=>rw [checkS_none ht] at hc;simp at hc
    | some t=>exact ⟨t,rfl⟩
   obtain ⟨hst,hrt,_⟩:=tyS_some.1 ht
   have HO:=Hd fun w5=>object_ok t hrt w5
   rw [← hst] at HO
   rw [hc] at HC
   rw [checkS_some ht] at hc
   rcases hob:objectT t with _ | _
   ·rw [hob] at HO
    have hfin:=Hd (sizeR_object HLk.out ht hc hob)
    clear hst hrt ht hc hob
    go_wp2_with (go_at_call 132;(with_reducible refine HC.out.mono ?_);rintro e w5 ⟨rfl,hb5⟩;have HB5:=Hd hb5;clear hb5)
    go_wp2_with (go_at_call 133;(with_reducible refine (HO.out _).mono ?_);rintro e w6 ⟨rfl,hw6⟩;subst w6)
    go_ret2
    exact meas_no hfin.out (by decide) (HG.out.trans (HB5.out.mono (by simp;have:=HB1.out.size;omega)))
   ·rw [hob] at HO
    have HT:=Hd ht
    have HCt:=Hd hc
    have HOb:=Hd hob
    clear hst hrt ht hc hob
    go_wp2_with (go_at_call 132;(with_reducible refine HC.out.mono ?_);rintro e w5 ⟨rfl,hb5⟩;have HB5:=Hd hb5;clear hb5)
    go_wp2_with (go_at_call 133;(with_reducible refine (HO.out _).mono ?_);rintro e w6 ⟨rfl,hw6⟩;subst w6)
    go_ret2
    exact ⟨HG.out.trans (HB5.out.mono (by simp;have:=HB1.out.size;omega)),.inr ⟨K,t,b,mb,lv,sv,av,HLk.out,HT.out,HCt.out,HOb.out,HFt.out,HKn.out.below HB5.out,rfl⟩⟩
  ·have hfin:=Hd (sizeR_check HLk.out hc)
   have t1:(checkS K s != 0) = true:=by simp [hc]
   have HC0:=Hd hc
   clear hc
   generalize checkS K s = c at *
   go_wp2_with (go_at_call 132;(with_reducible refine HC.out.mono ?_);rintro e w5 ⟨rfl,hb5⟩;have HB5:=Hd hb5;clear hb5)
   go_ret2
   exact meas_no hfin.out HC0.out (HG.out.trans (HB5.out.mono (by simp;have:=HB1.out.size;omega)))
set_option maxRecDepth 100000 in
set_option maxHeartbeats 4000000 in
theorem size_ok (s:ByteArray) (a:Option Addr) (cap:Nat) (L:List Sr) (mv:List Value) (w:World) (hE:TE w) (hS:IsSrs w.heap.size w a L mv) :
 Calls Tryz.prog 79 #[.string s,.slice a L.length cap] w fun e w'=>e = .returned (.tuple #[.int .i64 (sizeR L s).1,.int .i64 (sizeR L s).2.1,.int .i64 (sizeR L s).2.2]) ∧ Below w.heap.size w w':=by
 have HE:=Hd hE
 have HM:=Hd (measured_ok s a cap L mv w hE hS)
 clear hE hS
 go_enter Tryz.func79,Tryz.ntmps79
 go_wp2_with (go_at_call 102;(with_reducible refine HM.out.mono ?_))
 intro e w1 hend
 obtain ⟨hb1,⟨c,hr,hc,rfl⟩ | ⟨K,t,b,mb,lv,sv,av,hl,ht,hct,hob,hF,hkn,rfl⟩⟩:=hend
 ·have HR:=Hd hr
  have t1:(c != 0) = true:=by simp [hc]
  have HB1:=Hd hb1
  clear hr hc hb1
  go_wp2_with fail
  exact bodyPost_ret (v:=.tuple #[.int .i64 0,.int .i64 0,.int .i64 c]) (by simp [results,Tryz.results79,go_sem]) rfl ⟨by rw [HR.out],HB1.out⟩
 ·have HR:=Hd (sizeR_yes hl ht hct hob)
  obtain ⟨hst,hrt,hlt⟩:=tyS_some.1 ht
  obtain ⟨hsh,hth,_⟩:=checkT_zero hct
  have hm:=measure_ok t w1 hrt hlt hsh hth (HE.out.below hb1) hkn hF
  rw [capM_id (meas_bd hF t hct),← hst] at hm
  unfold measV at hm
  have HMs:=Hd hm
  have HB1:=Hd hb1
  clear hl ht hct hob hF hkn hst hrt hlt hsh hth hm hb1
  generalize measT K t = p at *
  obtain ⟨p1,p2⟩:=p
  go_wp2_with (go_at_call 103;(with_reducible refine HMs.out.mono ?_);rintro e w2 ⟨rfl,hb2⟩;have HB2:=Hd hb2;clear hb2)
  exact bodyPost_ret (v:=.tuple #[.int .i64 (p1:Int),.int .i64 (p2:Int),.int .i64 0]) (by simp [results,Tryz.results79,go_sem]) rfl ⟨by rw [HR.out],HB1.out.trans (HB2.out.mono HB1.out.size)⟩
end Go.Proofs.YtlcfejgjeljjdaaGreatDoor
namespace Go.Proofs.YtlcfejgjeljjdaaGreatDoor
open Go.Op
def truthI (b:Bool):Int:=if b then 1 else 0
def shlW (a y:Int):Int:=(a % 4294967296) * 2 ^ ((y % 4294967296) % 32).toNat % 4294967296
def shruW (a y:Int):Int:=(a % 4294967296) / 2 ^ ((y % 4294967296) % 32).toNat
def shrsW (a y:Int):Int:=(sgnI 32 a / 2 ^ ((y % 4294967296) % 32).toNat) % 4294967296
def mAnd2:ByteArray:=⟨#[38,38]⟩
def mOr2:ByteArray:=⟨#[124,124]⟩
def mShl:ByteArray:=⟨#[60,60]⟩
def mShr:ByteArray:=⟨#[62,62]⟩
def mMul:ByteArray:=⟨#[42]⟩
def mDiv:ByteArray:=⟨#[47]⟩
def mRem:ByteArray:=⟨#[37]⟩
def mAdd:ByteArray:=⟨#[43]⟩
def mSub:ByteArray:=⟨#[45]⟩
def mLt:ByteArray:=⟨#[60]⟩
def mGt:ByteArray:=⟨#[62]⟩
def mLe:ByteArray:=⟨#[60,61]⟩
def mGe:ByteArray:=⟨#[62,61]⟩
def mEq:ByteArray:=⟨#[61,61]⟩
def mNe:ByteArray:=⟨#[33,61]⟩
def mAnd:ByteArray:=⟨#[38]⟩
def mXor:ByteArray:=⟨#[94]⟩
def mOr:ByteArray:=⟨#[124]⟩
def mNot:ByteArray:=⟨#[33]⟩
def mCpl:ByteArray:=⟨#[126]⟩
def cmpI (m:ByteArray) (a b:Int):Option Bool:=
 if m = mLt then some (decide (a < b)) else if m = mGt then some (decide (b < a)) else if m = mLe then some (decide (a ≤ b)) else if m = mGe then some (decide (b ≤ a))
 else if m = mEq then some (decide (a = b)) else if m = mNe then some (decide (a ≠ b)) else none
def ariI (m:ByteArray) (a b:Int):Option Int:=
 if m = mMul then some (mulW a b)
 else if m = mDiv then (if b = 0 then none else some (a.tdiv b))
 else if m = mRem then (if b = 0 then none else some (a.tmod b))
 else if m = mAdd then some (a + b) else if m = mSub then some (a - b)
 else if m = mAnd then some (bits .and .i64 a b) else if m = mXor then some (bits .xor .i64 a b) else if m = mOr then some (bits .or .i64 a b) else some 0
def shfI (m:ByteArray) (t:ByteArray) (a y:Int):Int:=if m = mShr then (if t = iText12 then shrsW a y else shruW a y) else shlW a y
abbrev Num:=ByteArray × Int
def binI (m x:ByteArray) (a:Int) (y:ByteArray) (b:Int):Option Num:=
 if m = mAnd2 then some (iText12,truthI (decide (a ≠ 0) && decide (b ≠ 0)))
 else if m = mOr2 then some (iText12,truthI (decide (a ≠ 0) || decide (b ≠ 0)))
 else if m = mShl ∨ m = mShr then some (promI x,asI (shfI m (promI x) (asI a (promI x)) b) (promI x))
 else match cmpI m (asI a (commI x y)) (asI b (commI x y)) with
  | some r=>some (iText12,truthI r)
  | none=>(ariI m (asI a (commI x y)) (asI b (commI x y))).map fun n=>(commI x y,asI n (commI x y))
def unI (m x:ByteArray) (a:Int):Option Num:=
 if m = mNot then some (iText12,truthI (decide (a = 0)))
 else if m = mSub then some (promI x,asI (-(asI a (promI x))) (promI x))
 else if m = mCpl then some (promI x,asI (-(asI a (promI x)) - 1) (promI x))
 else none
def madeK (m x y:ByteArray):ByteArray:=
 if m = mLt ∨ m = mGt ∨ m = mLe ∨ m = mGe ∨ m = mEq ∨ m = mNe ∨ m = mAnd2 ∨ m = mOr2 then iText12 else if m = mShl ∨ m = mShr then promI x else commI x y
def IntT (t:ByteArray):Prop:=t = uText12 ∨ t = cText12 ∨ t = sText12 ∨ t = iText12
theorem isIntS_int {s:ByteArray} (h:isIntS s = true):IntT s:=by
 unfold IntT
 by_cases h1:s = uText12
 ·exact .inl h1
 by_cases h2:s = cText12
 ·exact .inr (.inl h2)
 by_cases h3:s = sText12
 ·exact .inr (.inr (.inl h3))
 by_cases h4:s = iText12
 ·exact .inr (.inr (.inr h4))
 rw [isIntS_not h2 h3 h4 h1] at h
 cases h
theorem intT_base {s:ByteArray} (h:IntT s):∃ c:UInt8,tyS s = some (.base c) ∧ (c = 99 ∨ c = 115 ∨ c = 105 ∨ c = 117) ∧ s = ⟨#[c]⟩:=by
 rcases h with rfl | rfl | rfl | rfl
 ·exact ⟨117,tyS_base (by decide),by decide,rfl⟩
 ·exact ⟨99,tyS_base (by decide),by decide,rfl⟩
 ·exact ⟨115,tyS_base (by decide),by decide,rfl⟩
 ·exact ⟨105,tyS_base (by decide),by decide,rfl⟩
theorem isIntS_of {s:ByteArray} (h:IntT s):isIntS s = true:=by
 obtain ⟨c,h1,h2,_⟩:=intT_base h
 unfold isIntS
 rw [h1]
 simpa [isIntT] using h2
theorem promoteV_int {t:ByteArray} (h:IntT t):promoteV t (tyS t) = .tuple #[.string (promI t),.int .i64 0]:=by
 rcases h with rfl | rfl | rfl | rfl
 ·rw [show tyS uText12 = some (.base 117) from tyS_base (by decide)];rfl
 ·rw [show tyS cText12 = some (.base 99) from tyS_base (by decide)];rfl
 ·rw [show tyS sText12 = some (.base 115) from tyS_base (by decide)];rfl
 ·rw [show tyS iText12 = some (.base 105) from tyS_base (by decide)];rfl
theorem commonV_int {t u:ByteArray} (h:IntT t) (h2:IntT u):commonV (tyS t) (tyS u) = .tuple #[.string (commI t u),.int .i64 0]:=by
 have h117:tyS uText12 = some (.base 117):=tyS_base (by decide)
 have h99:tyS cText12 = some (.base 99):=tyS_base (by decide)
 have h115:tyS sText12 = some (.base 115):=tyS_base (by decide)
 have h105:tyS iText12 = some (.base 105):=tyS_base (by decide)
 rcases h with rfl | rfl | rfl | rfl <;> rcases h2 with rfl | rfl | rfl | rfl <;> simp only [h117,h99,h115,h105] <;> rfl
theorem promI_int (t:ByteArray):IntT (promI t):=by rcases promI_ui t with h | h <;> rw [h] <;> simp [IntT]
theorem commI_int (t u:ByteArray):IntT (commI t u):=by rcases commI_ui t u with h | h <;> rw [h] <;> simp [IntT]
theorem madeK_int (m x y:ByteArray):IntT (madeK m x y):=by
 unfold madeK
 split
 ·simp [IntT]
 split
 ·exact promI_int _
 ·exact commI_int _ _
theorem cmpI_none {m:ByteArray} {a b:Int} (h:¬ (m = mLt ∨ m = mGt ∨ m = mLe ∨ m = mGe ∨ m = mEq ∨ m = mNe)):cmpI m a b = none:=by
 unfold cmpI
 simp only [not_or] at h
 obtain ⟨h1,h2,h3,h4,h5,h6⟩:=h
 rw [if_neg h1,if_neg h2,if_neg h3,if_neg h4,if_neg h5,if_neg h6]
theorem cmpI_some {m:ByteArray} {a b:Int} (h:m = mLt ∨ m = mGt ∨ m = mLe ∨ m = mGe ∨ m = mEq ∨ m = mNe):∃ r,cmpI m a b = some r:=by
 unfold cmpI
 rcases h with rfl | rfl | rfl | rfl | rfl | rfl
 ·exact ⟨_,if_pos rfl⟩
 ·exact ⟨_,by rw [if_neg (by decide),if_pos rfl]⟩
 ·exact ⟨_,by rw [if_neg (by decide),if_neg (by decide),if_pos rfl]⟩
 ·exact ⟨_,by rw [if_neg (by decide),if_neg (by decide),if_neg (by decide),if_pos rfl]⟩
 ·exact ⟨_,by rw [if_neg (by decide),if_neg (by decide),if_neg (by decide),if_neg (by decide),if_pos rfl]⟩
 ·exact ⟨_,by rw [if_neg (by decide),if_neg (by decide),if_neg (by decide),if_neg (by decide),if_neg (by decide),if_pos rfl]⟩
theorem binI_type {m x y:ByteArray} {a b:Int} {v:Num} (h:binI m x a y b = some v):v.1 = madeK m x y:=by
 unfold binI at h
 unfold madeK
 split at h
 ·obtain rfl:=Option.some.inj h
  rw [if_pos (by simp [*])]
 split at h
 ·obtain rfl:=Option.some.inj h
  rw [if_pos (by simp [*])]
 rename_i h1 h2
 split at h
 ·rename_i h3
  obtain rfl:=Option.some.inj h
  rw [if_neg (by rcases h3 with rfl | rfl <;> decide),if_pos h3]
 rename_i h3
 by_cases hc:m = mLt ∨ m = mGt ∨ m = mLe ∨ m = mGe ∨ m = mEq ∨ m = mNe
 ·obtain ⟨r,hr⟩:=cmpI_some (a:=asI a (commI x y)) (b:=asI b (commI x y)) hc
  rw [hr] at h
  obtain rfl:=Option.some.inj h
  rw [if_pos (by rcases hc with h | h | h | h | h | h <;> simp [h])]
 ·rw [cmpI_none hc] at h
  simp only [Option.map_eq_some_iff] at h
  obtain ⟨n,_,rfl⟩:=h
  simp only [not_or] at hc
  rw [if_neg (by simp [hc,h1,h2]),if_neg h3]
def shN (L:List Sr) (x:Nd):Bool:=
 if x.kind = 1 ∨ x.kind = 9 ∨ x.kind = 7 then true
 else if x.kind = 4 then !(decide (x.text = mAnd) || decide (x.text = mMul))
 else if x.kind = 15 then isIntS x.type
 else if x.kind = 17 then decide ((sizeR L x.type).2.2 = 0)
 else false
def shapT (L:List Sr) (T:Tr):Bool:=T.flat.all (shN L)
def shapAll (L:List Sr) (ps:List Tr):Bool:=ps.all (shapT L)
theorem flatAll_all (f:Nd → Bool) (ps:List Tr):(flatAll ps).all f = ps.all fun T=>T.flat.all f:=by
 induction ps with
 | nil=>rfl
 | cons T r ih=>rw [flatAll,List.all_append,ih,List.all_cons]
theorem shapT_node (L:List Sr) (x:Nd) (ps:List Tr):shapT L (.node x ps) = (shapAll L ps && shN L x):=by
 unfold shapT shapAll
 rw [Tr.flat,List.all_append,flatAll_all]
 simp
 rfl
def kindN (x:Nd) (ks:List ByteArray):ByteArray:=
 if x.kind = 1 ∨ x.kind = 15 then x.type
 else if x.kind = 17 then uText12
 else if x.kind = 4 then (if x.text = mNot then iText12 else promI (ks.getD 0 ⟨#[]⟩))
 else if x.kind = 9 then commI (ks.getD 1 ⟨#[]⟩) (ks.getD 2 ⟨#[]⟩)
 else madeK x.text (ks.getD 0 ⟨#[]⟩) (ks.getD 1 ⟨#[]⟩)
mutual
def kindT:Tr → ByteArray
 | .node x ps=>kindN x (kindsT ps)
def kindsT:List Tr → List ByteArray
 | []=>[]
 | T :: r=>kindT T :: kindsT r
end
theorem kindsT_map (ps:List Tr):kindsT ps = ps.map kindT:=by
 induction ps with
 | nil=>rfl
 | cons T r ih=>rw [kindsT,ih,List.map_cons]
theorem kindT_node (x:Nd) (ps:List Tr):kindT (.node x ps) = kindN x (ps.map kindT):=by rw [kindT,kindsT_map]
def evalN (L:List Sr) (x:Nd) (kd:ByteArray) (vs:List (Option Num)):Option Num:=
 if x.kind = 1 then some (x.type,asI x.int x.type)
 else if x.kind = 17 then some (uText12,(sizeR L x.type).1)
 else match vs.getD 0 none with
  | none=>none
  | some v=>
    if x.kind = 4 then unI x.text v.1 v.2
    else if x.kind = 15 then some (x.type,asI v.2 x.type)
    else if x.kind = 9 then (vs.getD (if v.2 = 0 then 2 else 1) none).map fun y=>(kd,asI y.2 kd)
    else if (x.text = mAnd2 ∧ v.2 = 0) ∨ (x.text = mOr2 ∧ v.2 ≠ 0) then some (iText12,truthI (decide (v.2 ≠ 0)))
    else match vs.getD 1 none with
     | none=>none
     | some y=>binI x.text v.1 v.2 y.1 y.2
mutual
def evalT (L:List Sr):Tr → Option Num
 | .node x ps=>evalN L x (kindN x (kindsT ps)) (evalsT L ps)
def evalsT (L:List Sr):List Tr → List (Option Num)
 | []=>[]
 | T :: r=>evalT L T :: evalsT L r
end
theorem evalsT_map (L:List Sr) (ps:List Tr):evalsT L ps = ps.map (evalT L):=by
 induction ps with
 | nil=>rfl
 | cons T r ih=>rw [evalsT,ih,List.map_cons]
theorem evalT_node (L:List Sr) (x:Nd) (ps:List Tr):evalT L (.node x ps) = evalN L x (kindT (.node x ps)) (ps.map (evalT L)):=by rw [evalT,evalsT_map,kindT]
def constT (L:List Sr) (T:Tr):Option Num:=if shapT L T then evalT L T else none
def writeT (v:Num) (at_:Int):Option Tr:=
 if (v.1 ≠ iText12 ∧ v.1 ≠ uText12) ∨ v.2 = -2147483648 then none
 else if 0 ≤ v.2 then some (.node ⟨1,0,at_,v.2,⟨#[]⟩,v.1⟩ [])
 else some (.node ⟨4,1,at_,0,mSub,⟨#[]⟩⟩ [.node ⟨1,0,at_,-v.2,⟨#[]⟩,iText12⟩ []])
def wrT (L:List Sr) (T:Tr):Option Tr:=if 1 < T.root.kind ∧ T.root.kind ≤ 17 then (constT L T).bind fun v=>writeT v T.root.at_ else none
mutual
def foldT (L:List Sr):Tr → Tr
 | .node x ps=>match wrT L (.node x ps) with
   | some W=>W
   | none=>if x.kind = 16 then .node x ps else .node x (foldsT L ps)
def foldsT (L:List Sr):List Tr → List Tr
 | []=>[]
 | T :: r=>foldT L T :: foldsT L r
end
theorem foldsT_map (L:List Sr) (ps:List Tr):foldsT L ps = ps.map (foldT L):=by
 induction ps with
 | nil=>rfl
 | cons T r ih=>rw [foldsT,ih,List.map_cons]
theorem foldT_wr {L:List Sr} {T W:Tr} (h:wrT L T = some W):foldT L T = W:=by
 cases T with
 | node x ps=>rw [foldT,h]
theorem foldT_sz {L:List Sr} {x:Nd} {ps:List Tr} (h:wrT L (.node x ps) = none) (hk:x.kind = 16):foldT L (.node x ps) = .node x ps:=by rw [foldT,h];exact if_pos hk
theorem foldT_in {L:List Sr} {x:Nd} {ps:List Tr} (h:wrT L (.node x ps) = none) (hk:x.kind ≠ 16):foldT L (.node x ps) = .node x (ps.map (foldT L)):=by
 rw [foldT,h,← foldsT_map];exact if_neg hk
end Go.Proofs.YtlcfejgjeljjdaaGreatDoor
