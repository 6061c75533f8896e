/- What is folded means the same · What is folded means the same; folded once more it is the sa · What is folded means the same; folded once more it is the sa -/
import Derived.Test.YtlcfejgjeljjdaaGreatDoorMg8
namespace Go.Proofs.YtlcfejgjeljjdaaGreatDoor
def ndGood (x:Nd):Prop:=wellN x = true ∧ exprK x.kind = true
def GoodT (T:Tr):Prop:=T.right ∧ ∀ x ∈ T.flat,ndGood x
theorem flatAll_mem {x:Nd} {ps:List Tr}:x ∈ flatAll ps ↔ ∃ T ∈ ps,x ∈ T.flat:=by
 induction ps with
 | nil=>simp [flatAll]
 | cons T r ih=>rw [flatAll,List.mem_append,ih];simp
theorem rightAll_iff {ps:List Tr}:rightAll ps ↔ ∀ T ∈ ps,T.right:=by
 induction ps with
 | nil=>simp [rightAll]
 | cons T r ih=>rw [rightAll,ih];simp
theorem good_node {x:Nd} {ps:List Tr}:GoodT (.node x ps) ↔ (x.n = (ps.length:Int) ∧ ndGood x ∧ ∀ T ∈ ps,GoodT T):=by
 unfold GoodT
 rw [Tr.right,Tr.flat,rightAll_iff]
 constructor
 ·rintro ⟨⟨h1,h2⟩,h3⟩
  exact ⟨h1,h3 x (by simp),fun T hT=>⟨h2 T hT,fun y hy=>h3 y (List.mem_append.2 (.inl (flatAll_mem.2 ⟨T,hT,hy⟩)))⟩⟩
 ·rintro ⟨h1,h2,h3⟩
  refine ⟨⟨h1,fun T hT=>(h3 T hT).1⟩,fun y hy=>?_⟩
  rcases List.mem_append.1 hy with hy | hy
  ·obtain ⟨T,hT,hy⟩:=flatAll_mem.1 hy
   exact (h3 T hT).2 y hy
  ·obtain rfl:=List.mem_singleton.1 hy
   exact h2
mutual
def deepR:Tr → Nat
 | .node _ ps=>(deepsR ps).reverse.foldl max 0 + 1
def deepsR:List Tr → List Nat
 | []=>[]
 | T :: r=>deepR T :: deepsR r
end
theorem deepsT_map (ps:List Tr):deepsR ps = ps.map deepR:=by
 induction ps with
 | nil=>rfl
 | cons T r ih=>rw [deepsR,ih,List.map_cons]
theorem foldl_max_le {l m:List Nat} {a b:Nat} (hl:l.length = m.length) (h:∀ (i:Nat) (x y:Nat),l[i]? = some x → m[i]? = some y → x ≤ y) (hab:a ≤ b):l.foldl max a ≤ m.foldl max b:=by
 induction l generalizing m a b with
 | nil=>
   cases m with
   | nil=>exact hab
   | cons y m=>simp at hl
 | cons x l ih=>
   cases m with
   | nil=>simp at hl
   | cons y m=>
     have:=h 0 x y rfl rfl
     rw [List.foldl_cons,List.foldl_cons]
     exact ih (by simpa using hl) (fun i x y h1 h2=>h (i + 1) x y (by simpa using h1) (by simpa using h2)) (by omega)
theorem deep_le {ps qs:List Tr} (f:Tr → Tr) (hq:qs = ps.map f) (h:∀ T ∈ ps,deepR (f T) ≤ deepR T):(deepsR qs).reverse.foldl max 0 ≤ (deepsR ps).reverse.foldl max 0:=by
 subst hq
 rw [deepsT_map,deepsT_map,← List.map_reverse,← List.map_reverse,List.map_map,← List.map_reverse]
 refine foldl_max_le (by simp) (fun i x y h1 h2=>?_) (Nat.le_refl _)
 rw [List.getElem?_map] at h1 h2
 cases hT:ps.reverse[i]? with
 | none=>rw [hT] at h1;cases h1
 | some T=>
   rw [hT] at h1 h2
   obtain rfl:=Option.some.inj h1
   obtain rfl:=Option.some.inj h2
   exact h T (List.mem_reverse.1 (List.mem_of_getElem? hT))
theorem deepF_all {ps:List Tr} (h:∀ T ∈ ps,∀ (l:List Nd) (st:List Nat),deepF (T.flat ++ l) st = deepF l (deepR T :: st)) (l:List Nd) (st:List Nat):deepF (flatAll ps ++ l) st = deepF l ((deepsR ps).reverse ++ st):=by
 induction ps generalizing st with
 | nil=>rfl
 | cons T r ih=>
   rw [flatAll,List.append_assoc,h T List.mem_cons_self,ih (fun S hS=>h S (List.mem_cons_of_mem _ hS)),deepsR,List.reverse_cons,List.append_assoc]
   rfl
theorem deepF_flat (T:Tr):T.right → ∀ (l:List Nd) (st:List Nat),deepF (T.flat ++ l) st = deepF l (deepR T :: st):=by
 refine tr_induct (P:=fun T=>T.right → ∀ (l:List Nd) (st:List Nat),deepF (T.flat ++ l) st = deepF l (deepR T :: st)) (fun x ps ih hr l st=>?_) T
 rw [Tr.right] at hr
 obtain ⟨hn,hra⟩:=hr
 have hl:(deepsR ps).reverse.length = ps.length:=by rw [List.length_reverse,deepsT_map,List.length_map]
 rw [Tr.flat,List.append_assoc,deepF_all (fun S hS=>ih S hS (rightAll_mem hra hS)),List.singleton_append,deepF,show x.n.toNat = (deepsR ps).reverse.length by omega,List.take_left,List.drop_left,deepR]
theorem deepN_flat {T:Tr} (h:T.right):deepN T.flat = deepR T:=by
 have:=deepF_flat T h [] []
 rw [List.append_nil] at this
 unfold deepN
 rw [this]
 rfl
theorem exprK_may {k q:Int} {i:Nat} (h:exprK k = true):mayN k i q = exprK q:=by unfold mayN;rw [if_pos (.inl h)]
theorem mayAll_expr {t:List Nd} {k:Int} (h:exprK k = true):∀ (i:Nat) (ps:List Nat),mayAll t k i ps = ps.all fun p=>exprK (kindAt t p)
 | _,[]=>rfl
 | i,p :: l=>by rw [mayAll,exprK_may h,mayAll_expr h (i + 1) l,List.all_cons]
theorem check_good {T:Tr} (h:GoodT T) (hl:T.flat.length ≤ 4096) (hd:deepR T ≤ 48):checkN9 T.flat = 0:=by
 have hb:=begins_whole h.1
 have hF:=formed_of hb
 have hex:∀ k,k < T.flat.length → exprK (kindAt T.flat k) = true:=fun k hk=>by
  have hx:=List.getElem?_eq_getElem hk
  rw [kindAt_is hx]
  exact (h.2 _ (List.getElem_mem hk)).2
 unfold checkN9
 rw [if_neg (by omega),if_neg (by simp only [Bool.not_eq_false];rw [List.all_eq_true];exact fun x hx=>(h.2 x hx).1),hb]
 simp only
 rw [if_neg,if_neg (by rw [deepN_flat h.1];omega)]
 simp only [Bool.not_eq_false]
 rw [List.all_eq_true]
 intro k hk
 have hk:=List.mem_range.1 hk
 have he:=hex k hk
 unfold fitsN
 rw [mayAll_expr he,Bool.and_eq_true,List.all_eq_true]
 refine ⟨fun p hp=>hex p (by have:=hF.parts_lt hp;omega),?_⟩
 have:kindAt T.flat k ≠ 23:=by
  intro e;rw [e] at he;exact absurd he (by decide)
 simp [this]
theorem good_of {t:List Nd} {fr:List Nat} (hc:checkN9 t = 0) (hb:beginsN t = some fr) {k:Nat} (hk:k < t.length) (he:exprK (kindAt t k) = true):GoodT (trAt t fr k):=by
 have hF:=formed_of hb
 refine ⟨right_at hF k hk,?_⟩
 have hw:t.all wellN = true:=by
  unfold checkN9 at hc
  split at hc
  ·cases hc
  split at hc
  ·cases hc
  rename_i h
  simpa using h
 have hf:∀ k,k < t.length → fitsN t fr k = true:=by
  unfold checkN9 at hc
  split at hc
  ·cases hc
  split at hc
  ·cases hc
  rw [hb] at hc
  simp only at hc
  split at hc
  ·cases hc
  rename_i h
  intro k hk
  exact List.all_eq_true.1 (by simpa using h) k (List.mem_range.2 hk)
 clear hc
 induction k using Nat.strongRecOn with
 | ind k ih=>
   intro x hx
   rw [trAt_eq hF,Tr.flat] at hx
   rcases List.mem_append.1 hx with hx | hx
   ·obtain ⟨T,hT,hx⟩:=flatAll_mem.1 hx
    obtain ⟨p,hp,rfl⟩:=List.mem_map.1 hT
    have hlt:=hF.parts_lt hp
    refine ih p hlt (by omega) ?_ x hx
    have:=hf k hk
    unfold fitsN at this
    rw [mayAll_expr he,Bool.and_eq_true,List.all_eq_true] at this
    exact this.1 p hp
   ·obtain rfl:=List.mem_singleton.1 hx
    have hx:=List.getElem?_eq_getElem hk
    have hg:t.getD k nd0 = t[k]:=by simp [List.getD,hk]
    rw [hg]
    exact ⟨List.all_eq_true.1 hw _ (List.getElem_mem hk),by rw [← kindAt_is hx];exact he⟩
end Go.Proofs.YtlcfejgjeljjdaaGreatDoor
namespace Go.Proofs.YtlcfejgjeljjdaaGreatDoor
def Kept (v:Num):Prop:=asI v.2 v.1 = v.2
theorem kept_as (n:Int) (t:ByteArray):Kept (t,asI n t):=asI_twice n t
theorem kept_truth (b:Bool):Kept (iText12,truthI b):=by unfold Kept;cases b <;> decide
theorem unI_kept {m x:ByteArray} {a:Int} {v:Num} (h:unI m x a = some v):Kept v:=by
 unfold unI at h
 split at h
 ·obtain rfl:=Option.some.inj h;exact kept_truth _
 split at h
 ·obtain rfl:=Option.some.inj h;exact kept_as _ _
 split at h
 ·obtain rfl:=Option.some.inj h;exact kept_as _ _
 ·cases h
theorem binI_kept {m x y:ByteArray} {a b:Int} {v:Num} (h:binI m x a y b = some v):Kept v:=by
 unfold binI at h
 split at h
 ·obtain rfl:=Option.some.inj h;exact kept_truth _
 split at h
 ·obtain rfl:=Option.some.inj h;exact kept_truth _
 split at h
 ·obtain rfl:=Option.some.inj h;exact kept_as _ _
 split at h
 ·obtain rfl:=Option.some.inj h;exact kept_truth _
 ·simp only [Option.map_eq_some_iff] at h
  obtain ⟨n,_,rfl⟩:=h
  exact kept_as _ _
def SizesOk (L:List Sr):Prop:=∀ s,0 ≤ (sizeR L s).1 ∧ (sizeR L s).1 < 4294967296
theorem unI_type {m x:ByteArray} {a:Int} {v:Num} (h:unI m x a = some v):v.1 = if m = mNot then iText12 else promI x:=by
 unfold unI at h
 split at h
 ·obtain rfl:=Option.some.inj h;rename_i h1;rw [if_pos h1]
 rename_i h1
 split at h
 ·obtain rfl:=Option.some.inj h;rw [if_neg h1]
 split at h
 ·obtain rfl:=Option.some.inj h;rw [if_neg h1]
 ·cases h
theorem shN_kinds {L:List Sr} {x:Nd} (h:shN L x = true):x.kind = 1 ∨ x.kind = 9 ∨ x.kind = 7 ∨ x.kind = 4 ∨ x.kind = 15 ∨ x.kind = 17:=by
 unfold shN at h
 split at h
 ·rename_i h;omega
 split at h
 ·rename_i h;omega
 split at h
 ·rename_i h;omega
 split at h
 ·rename_i h;omega
 ·cases h
theorem map_at {α:Type} (f:Tr → α) (ps:List Tr) (i:Nat) (d:α) (h:i < ps.length):(ps.map f).getD i d = f ps[i]:=by simp [List.getD,h]
theorem good_parts {x:Nd} {ps:List Tr} (hn:x.n = (ps.length:Int)) (hw:wellN x = true):(x.kind = 1 ∨ x.kind = 17 → ps.length = 0) ∧ (x.kind = 4 ∨ x.kind = 15 → ps.length = 1) ∧ (x.kind = 7 → ps.length = 2) ∧ (x.kind = 9 → ps.length = 3):=by
 have h:=well_parts hw
 refine ⟨fun hk=>?_,fun hk=>?_,fun hk=>?_,fun hk=>?_⟩
 ·have:arityN x.kind = (0,0):=by rcases hk with e | e <;> rw [e] <;> decide
  rw [this] at h;simp only at h;omega
 ·have:arityN x.kind = (1,1):=by rcases hk with e | e <;> rw [e] <;> decide
  rw [this] at h;simp only at h;omega
 ·have:arityN x.kind = (2,2):=by rw [hk];decide
  rw [this] at h;simp only at h;omega
 ·have:arityN x.kind = (3,3):=by rw [hk];decide
  rw [this] at h;simp only at h;omega
theorem good_number {x:Nd} (hw:wellN x = true) (hk:x.kind = 1):(x.type = uText12 ∧ 0 ≤ x.int ∧ x.int < 4294967296) ∨ (x.type = iText12 ∧ -128 ≤ x.int ∧ x.int < 2147483648):=by
 unfold wellN at hw
 rw [if_pos hk,Bool.and_eq_true,Bool.and_eq_true] at hw
 have h:=hw.2.1
 unfold numberN at h
 split at h
 ·rename_i ht
  exact .inl ⟨ht,by simpa using h⟩
 ·simp only [Bool.and_eq_true,decide_eq_true_eq] at h
  exact .inr h
theorem eval_kind {L:List Sr} (hL:SizesOk L) (T:Tr):GoodT T → shapT L T = true → IntT (kindT T) ∧ ∀ v,evalT L T = some v → v.1 = kindT T ∧ Kept v:=by
 refine tr_induct (P:=fun T=>GoodT T → shapT L T = true → IntT (kindT T) ∧ ∀ v,evalT L T = some v → v.1 = kindT T ∧ Kept v) (fun x ps ih hg hs=>?_) T
 obtain ⟨hn,⟨hw,he⟩,hgs⟩:=good_node.1 hg
 rw [shapT_node,Bool.and_eq_true] at hs
 obtain ⟨hsa,hsx⟩:=hs
 have ihp:∀ (i:Nat) (hi:i < ps.length),IntT (kindT ps[i]) ∧ ∀ v,evalT L ps[i] = some v → v.1 = kindT ps[i] ∧ Kept v:=fun i hi=>ih _ (List.getElem_mem hi) (hgs _ (List.getElem_mem hi)) (List.all_eq_true.1 hsa _ (List.getElem_mem hi))
 obtain ⟨p0,p1,p2,p3⟩:=good_parts hn hw
 rw [evalT_node,kindT_node]
 unfold evalN kindN
 rcases shN_kinds hsx with hk | hk | hk | hk | hk | hk
 ·simp only [hk]
  simp only [true_or,if_true]
  refine ⟨?_,fun v hv=>?_⟩
  ·rcases good_number hw hk with h | h
   ·rw [h.1];exact .inl rfl
   ·rw [h.1];exact .inr (.inr (.inr rfl))
  ·obtain rfl:=Option.some.inj hv
   exact ⟨rfl,kept_as _ _⟩
 ·have hl:=p3 hk
  simp only [hk]
  simp only [show ((9:Int) = 17) = False by simp,show ((9:Int) = 4) = False by simp,show ((9:Int) = 1) = False by simp,show ((9:Int) = 15) = False by simp,if_false,if_true,or_self]
  refine ⟨commI_int _ _,fun v hv=>?_⟩
  split at hv
  ·cases hv
  ·simp only [Option.map_eq_some_iff] at hv
   obtain ⟨y,_,rfl⟩:=hv
   exact ⟨rfl,kept_as _ _⟩
 ·have hl:=p2 hk
  simp only [hk]
  simp only [show ((7:Int) = 17) = False by simp,show ((7:Int) = 4) = False by simp,show ((7:Int) = 1) = False by simp,show ((7:Int) = 15) = False by simp,show ((7:Int) = 9) = False by simp,if_false,or_self]
  refine ⟨madeK_int _ _ _,fun v hv=>?_⟩
  rw [map_at kindT ps 0 _ (by omega),map_at kindT ps 1 _ (by omega)]
  rw [map_at (evalT L) ps 0 _ (by omega),map_at (evalT L) ps 1 _ (by omega)] at hv
  split at hv
  ·cases hv
  ·rename_i a ha
   split at hv
   ·rename_i hm
    obtain rfl:=Option.some.inj hv
    refine ⟨?_,kept_truth _⟩
    unfold madeK
    rw [if_pos (by rcases hm with ⟨hm,_⟩ | ⟨hm,_⟩ <;> rw [hm] <;> decide)]
   ·split at hv
    ·cases hv
    ·rename_i b hb
     have h0:=((ihp 0 (by omega)).2 a ha).1
     have h1:=((ihp 1 (by omega)).2 b hb).1
     rw [← h0,← h1]
     exact ⟨binI_type hv,binI_kept hv⟩
 ·have hl:=p1 (.inl hk)
  simp only [hk]
  simp only [show ((4:Int) = 17) = False by simp,show ((4:Int) = 1) = False by simp,if_false,if_true,false_or]
  rw [map_at kindT ps 0 _ (by omega),map_at (evalT L) ps 0 _ (by omega)]
  refine ⟨?_,fun v hv=>?_⟩
  ·by_cases hm:x.text = mNot
   ·rw [if_pos hm];exact .inr (.inr (.inr rfl))
   ·rw [if_neg hm];exact promI_int _
  split at hv
  ·cases hv
  ·rename_i a ha
   rw [← ((ihp 0 (by omega)).2 a ha).1]
   exact ⟨unI_type hv,unI_kept hv⟩
 ·have hl:=p1 (.inr hk)
  have ht:isIntS x.type = true:=by
   unfold shN at hsx
   rw [if_neg (by omega),if_neg (by omega),if_pos hk] at hsx
   exact hsx
  simp only [hk]
  simp only [show ((15:Int) = 17) = False by simp,show ((15:Int) = 4) = False by simp,show ((15:Int) = 1) = False by simp,or_true,if_false,if_true]
  refine ⟨?_,fun v hv=>?_⟩
  ·exact isIntS_int ht
  split at hv
  ·cases hv
  ·obtain rfl:=Option.some.inj hv
   exact ⟨rfl,kept_as _ _⟩
 ·simp only [hk]
  simp only [show ((17:Int) = 1) = False by simp,if_false,if_true,false_or]
  refine ⟨.inl rfl,fun v hv=>?_⟩
  obtain rfl:=Option.some.inj hv
  refine ⟨rfl,?_⟩
  have:=hL x.type
  unfold Kept asI
  rw [if_pos rfl]
  show (sizeR L x.type).1 % 4294967296 = (sizeR L x.type).1
  omega
end Go.Proofs.YtlcfejgjeljjdaaGreatDoor
namespace Go.Proofs.YtlcfejgjeljjdaaGreatDoor
theorem asI_i {n:Int} (h1:-2147483648 ≤ n) (h2:n < 2147483648):asI n iText12 = n:=by
 unfold asI
 rw [if_neg (by decide),if_neg (by decide),if_neg (by decide),sgn32]
 omega
theorem asI_iback {n:Int} (h:asI n iText12 = n):-2147483648 ≤ n ∧ n < 2147483648:=by
 unfold asI at h
 rw [if_neg (by decide),if_neg (by decide),if_neg (by decide),sgn32] at h
 omega
theorem asI_uback {n:Int} (h:asI n uText12 = n):0 ≤ n ∧ n < 4294967296:=by
 unfold asI at h
 rw [if_pos rfl] at h
 omega
theorem well_numT {n at_:Int} {t:ByteArray} (ha:0 ≤ at_ ∧ at_ ≤ 65536) (h:(t = uText12 ∧ 0 ≤ n ∧ n < 4294967296) ∨ (t = iText12 ∧ -128 ≤ n ∧ n < 2147483648)):wellN ⟨1,0,at_,n,⟨#[]⟩,t⟩ = true:=by
 unfold wellN sizeOk numberN noText
 rcases h with ⟨rfl,h1,h2⟩ | ⟨rfl,h1,h2⟩
 ·simp [arityN,ha.1,ha.2,h1,h2,uText12]
  rfl
 ·have:iText12 ≠ (⟨#[117]⟩:ByteArray):=by decide
  simp [arityN,ha.1,ha.2,h1,h2,this]
  exact ⟨rfl,rfl⟩
theorem well_neg {at_:Int} (ha:0 ≤ at_ ∧ at_ ≤ 65536):wellN ⟨4,1,at_,0,mSub,⟨#[]⟩⟩ = true:=by
 unfold wellN sizeOk intOk bodyOk noText
 simp [arityN,ha.1,ha.2,marksN]
 decide
theorem deepT_node (x:Nd) (ps:List Tr):deepR (.node x ps) = (ps.map deepR).reverse.foldl max 0 + 1:=by rw [deepR,deepsT_map]
theorem le_foldl_max {l:List Nat} {a x:Nat} (h:x ∈ l ∨ x ≤ a):x ≤ l.foldl max a:=by
 induction l generalizing a with
 | nil=>rcases h with h | h;cases h;exact h
 | cons y l ih=>
   rw [List.foldl_cons]
   apply ih
   rcases h with h | h
   ·rcases List.mem_cons.1 h with rfl | h
    ·exact .inr (by omega)
    ·exact .inl h
   ·exact .inr (by omega)
theorem deep_pos (T:Tr):1 ≤ deepR T:=by cases T with | node x ps=>rw [deepT_node];omega
theorem deep_part {x:Nd} {ps:List Tr} {T:Tr} (h:T ∈ ps):deepR T + 1 ≤ deepR (.node x ps):=by
 rw [deepT_node]
 have:=le_foldl_max (l:=(ps.map deepR).reverse) (a:=0) (x:=deepR T) (.inl (by rw [List.mem_reverse];exact List.mem_map.2 ⟨T,h,rfl⟩))
 omega
theorem wrT_node (L:List Sr) (x:Nd) (ps:List Tr):wrT L (.node x ps) = if 1 < x.kind ∧ x.kind ≤ 17 then (constT L (.node x ps)).bind fun v=>writeT v x.at_ else none:=rfl
theorem kind_neg {at_:Int} (ps:List Tr) (T:Tr):kindT (.node ⟨4,1,at_,0,mSub,⟨#[]⟩⟩ (T :: ps)) = promI (kindT T):=by
 rw [kindT_node]
 unfold kindN
 simp only
 rw [if_neg (by decide),if_neg (by decide),if_pos trivial,if_neg (by decide)]
 rfl
theorem eval_num {L:List Sr} {at_ n:Int} {t:ByteArray} (h:asI n t = n):evalT L (.node ⟨1,0,at_,n,⟨#[]⟩,t⟩ []) = some (t,n):=by
 rw [evalT_node]
 unfold evalN
 rw [if_pos rfl,h]
theorem kind_num {at_ n:Int} {t:ByteArray}:kindT (.node ⟨1,0,at_,n,⟨#[]⟩,t⟩ []) = t:=by
 rw [kindT_node]
 unfold kindN
 rw [if_pos (.inl rfl)]
theorem eval_neg {L:List Sr} {at_ n:Int} {T:Tr} (hT:evalT L T = some (iText12,-n)) (h1:-2147483648 < n) (h2:n < 0):evalT L (.node ⟨4,1,at_,0,mSub,⟨#[]⟩⟩ [T]) = some (iText12,n):=by
 rw [evalT_node]
 unfold evalN
 simp only [List.map_cons,List.map_nil,List.getD_cons_zero,hT]
 rw [if_neg (by decide),if_neg (by decide),if_pos trivial]
 unfold unI
 rw [if_neg (by decide),if_pos rfl,show promI iText12 = iText12 by decide,asI_i (n:=-n) (by omega) (by omega),Int.neg_neg,asI_i (by omega) (by omega)]
theorem write_good {L:List Sr} {v:Num} {at_:Int} {W:Tr} (hk:Kept v) (ha:0 ≤ at_ ∧ at_ ≤ 65536) (h:writeT v at_ = some W) :
 GoodT W ∧ shapT L W = true ∧ evalT L W = some v ∧ kindT W = v.1 ∧ foldT L W = W ∧ ((W.flat.length = 1 ∧ deepR W = 1) ∨ (v.1 = iText12 ∧ W.flat.length = 2 ∧ deepR W = 2)):=by
 unfold writeT at h
 split at h
 ·cases h
 rename_i hv
 obtain ⟨t,n⟩:=v
 simp only [not_or,not_and,Decidable.not_not] at hv
 obtain ⟨ht,hm⟩:=hv
 unfold Kept at hk
 simp only at hk hm ht h
 have htt:t = uText12 ∨ t = iText12:=by
  by_cases h:t = iText12
  ·exact .inr h
  ·exact .inl (ht h)
 split at h
 ·rename_i h0
  obtain rfl:=Option.some.inj h
  have hw:wellN ⟨1,0,at_,n,⟨#[]⟩,t⟩ = true:=well_numT ha (by
   rcases htt with rfl | rfl
   ·have:=asI_uback hk;exact .inl ⟨rfl,by omega,by omega⟩
   ·have:=asI_iback hk;exact .inr ⟨rfl,by omega,by omega⟩)
  refine ⟨good_node.2 ⟨rfl,⟨hw,(by decide:exprK 1 = true)⟩,fun T hT=>by cases hT⟩,?_,eval_num hk,kind_num,?_,.inl ⟨by simp [Tr.flat,flatAll],by rw [deepT_node];rfl⟩⟩
  ·unfold shapT;simp [Tr.flat,flatAll,shN]
  ·rw [foldT_in (by unfold wrT;rw [if_neg (by simp [Tr.root])]) (by decide:(1:Int) ≠ 16)]
   rfl
 ·rename_i h0
  obtain rfl:=Option.some.inj h
  have hti:t = iText12:=by
   rcases htt with rfl | rfl
   ·have:=asI_uback hk;omega
   ·rfl
  subst hti
  have hr:=asI_iback hk
  have hg1:GoodT (.node ⟨1,0,at_,-n,⟨#[]⟩,iText12⟩ []):=good_node.2 ⟨rfl,⟨well_numT ha (.inr ⟨rfl,by omega,by omega⟩),(by decide:exprK 1 = true)⟩,fun T hT=>by cases hT⟩
  have hev:evalT L (.node ⟨4,1,at_,0,mSub,⟨#[]⟩⟩ [.node ⟨1,0,at_,-n,⟨#[]⟩,iText12⟩ []]) = some (iText12,n):=eval_neg (eval_num (asI_i (by omega) (by omega))) (by omega) (by omega)
  have hsh:shapT L (.node ⟨4,1,at_,0,mSub,⟨#[]⟩⟩ [.node ⟨1,0,at_,-n,⟨#[]⟩,iText12⟩ []]) = true:=by
   unfold shapT;simp [Tr.flat,flatAll,shN];decide
  refine ⟨good_node.2 ⟨rfl,⟨well_neg ha,(by decide:exprK 4 = true)⟩,fun T hT=>by obtain rfl:=List.mem_singleton.1 hT;exact hg1⟩,hsh,hev,?_,?_,.inr ⟨rfl,by simp [Tr.flat,flatAll],by rw [deepT_node];simp [deepT_node]⟩⟩
  ·rw [kind_neg,kind_num];exact (by decide:promI iText12 = iText12)
  ·apply foldT_wr
   rw [wrT_node,if_pos (show (1:Int) < 4 ∧ (4:Int) ≤ 17 by decide)]
   unfold constT
   rw [if_pos hsh,hev]
   show writeT (iText12,n) at_ = _
   unfold writeT
   rw [if_neg (by simp;omega),if_neg h0]
theorem good_at {x:Nd} (h:wellN x = true):0 ≤ x.at_ ∧ x.at_ ≤ 65536:=by
 unfold wellN sizeOk at h
 simp only [Bool.and_eq_true,decide_eq_true_eq] at h
 exact ⟨h.1.2.2.2.1,h.1.2.2.2.2⟩
theorem flatAll_len {ps:List Tr} {f:Tr → Tr} (h:∀ T ∈ ps,(f T).flat.length ≤ T.flat.length):(flatAll (ps.map f)).length ≤ (flatAll ps).length:=by
 induction ps with
 | nil=>exact Nat.le_refl _
 | cons T r ih=>
   rw [List.map_cons,flatAll,flatAll,List.length_append,List.length_append]
   have:=h T List.mem_cons_self
   have:=ih fun S hS=>h S (List.mem_cons_of_mem _ hS)
   omega
theorem map_same {α:Type} {ps:List Tr} {f:Tr → Tr} {g:Tr → α} (h:∀ T ∈ ps,g (f T) = g T):(ps.map f).map g = ps.map g:=by
 rw [List.map_map]
 exact List.map_congr_left h
theorem wrT_some {L:List Sr} {T W:Tr} (h:wrT L T = some W):1 < T.root.kind ∧ T.root.kind ≤ 17 ∧ shapT L T = true ∧ ∃ v,evalT L T = some v ∧ writeT v T.root.at_ = some W:=by
 unfold wrT at h
 split at h
 ·rename_i hk
  unfold constT at h
  split at h
  ·rename_i hs
   simp only [Option.bind_eq_some_iff] at h
   exact ⟨hk.1,hk.2,hs,h⟩
  ·cases h
 ·cases h
theorem fold_main {L:List Sr} (hL:SizesOk L) (T:Tr):GoodT T → GoodT (foldT L T) ∧ deepR (foldT L T) ≤ deepR T ∧ (foldT L T).flat.length ≤ T.flat.length ∧ shapT L (foldT L T) = shapT L T ∧ (shapT L T = true → kindT (foldT L T) = kindT T ∧ evalT L (foldT L T) = evalT L T) ∧ foldT L (foldT L T) = foldT L T:=by
 refine tr_induct (P:=fun T=>GoodT T → GoodT (foldT L T) ∧ deepR (foldT L T) ≤ deepR T ∧ (foldT L T).flat.length ≤ T.flat.length ∧ shapT L (foldT L T) = shapT L T ∧ (shapT L T = true → kindT (foldT L T) = kindT T ∧ evalT L (foldT L T) = evalT L T) ∧ foldT L (foldT L T) = foldT L T) (fun x ps ih hg=>?_) T
 obtain ⟨hn,⟨hw,he⟩,hgs⟩:=good_node.1 hg
 cases hwr:wrT L (.node x ps) with
 | some W=>
   rw [foldT_wr hwr]
   obtain ⟨hk1,hk2,hs,v,hev,hwv⟩:=wrT_some hwr
   obtain ⟨hi,hv⟩:=eval_kind hL _ hg hs
   obtain ⟨hv1,hv2⟩:=hv v hev
   obtain ⟨g1,g2,g3,g4,g5,g6⟩:=write_good (L:=L) hv2 (good_at hw) hwv
   refine ⟨g1,?_,?_,by rw [g2,hs],fun _=>⟨by rw [g4,hv1],by rw [g3,hev]⟩,g5⟩
   ·have:=deep_pos (.node x ps)
    rcases g6 with ⟨_,h⟩ | ⟨ht,_,h⟩
    ·omega
    ·have hp:0 < ps.length:=by
      rw [shapT_node,Bool.and_eq_true] at hs
      obtain ⟨p0,p1,p2,p3⟩:=good_parts hn hw
      simp only [Tr.root] at hk1
      rcases shN_kinds hs.2 with e | e | e | e | e | e
      ·omega
      ·have:=p3 e;omega
      ·have:=p2 e;omega
      ·have:=p1 (.inl e);omega
      ·have:=p1 (.inr e);omega
      ·rw [evalT_node] at hev
       unfold evalN at hev
       rw [if_neg (by omega),if_pos e] at hev
       obtain rfl:=Option.some.inj hev
       exact absurd ht (by decide:¬ uText12 = iText12)
     have:=deep_part (x:=x) (List.getElem_mem hp)
     have:=deep_pos ps[0]
     omega
   ·have:=flat_pos (.node x ps)
    rcases g6 with ⟨h,_⟩ | ⟨ht,h,_⟩
    ·omega
    ·have hp:0 < ps.length:=by
      rw [shapT_node,Bool.and_eq_true] at hs
      obtain ⟨p0,p1,p2,p3⟩:=good_parts hn hw
      simp only [Tr.root] at hk1
      rcases shN_kinds hs.2 with e | e | e | e | e | e
      ·omega
      ·have:=p3 e;omega
      ·have:=p2 e;omega
      ·have:=p1 (.inl e);omega
      ·have:=p1 (.inr e);omega
      ·rw [evalT_node] at hev
       unfold evalN at hev
       rw [if_neg (by omega),if_pos e] at hev
       obtain rfl:=Option.some.inj hev
       exact absurd ht (by decide:¬ uText12 = iText12)
     have:=flat_mem_lt (x:=x) (List.getElem_mem hp)
     have:=flat_pos ps[0]
     omega
 | none=>
   by_cases hk:x.kind = 16
   ·rw [foldT_sz hwr hk]
    exact ⟨hg,Nat.le_refl _,Nat.le_refl _,rfl,fun _=>⟨rfl,rfl⟩,foldT_sz hwr hk⟩
   ·rw [foldT_in hwr hk]
    have ihp:=fun T hT=>ih T hT (hgs T hT)
    have hsa:shapAll L (ps.map (foldT L)) = shapAll L ps:=by
     unfold shapAll
     rw [List.all_map]
     rw [Bool.eq_iff_iff,List.all_eq_true,List.all_eq_true]
     exact ⟨fun h T hT=>by rw [← (ihp T hT).2.2.2.1];exact h T hT,fun h T hT=>by show shapT L (foldT L T) = true;rw [(ihp T hT).2.2.2.1];exact h T hT⟩
    have hsh:shapT L (.node x (ps.map (foldT L))) = shapT L (.node x ps):=by rw [shapT_node,shapT_node,hsa]
    have hval:shapT L (.node x ps) = true → kindT (.node x (ps.map (foldT L))) = kindT (.node x ps) ∧ evalT L (.node x (ps.map (foldT L))) = evalT L (.node x ps):=fun hs=>by
     rw [shapT_node,Bool.and_eq_true] at hs
     have hps:∀ T ∈ ps,shapT L T = true:=List.all_eq_true.1 hs.1
     have hkd:kindT (.node x (ps.map (foldT L))) = kindT (.node x ps):=by rw [kindT_node,kindT_node,map_same fun T hT=>((ihp T hT).2.2.2.2.1 (hps T hT)).1]
     refine ⟨hkd,?_⟩
     rw [evalT_node,evalT_node,hkd,map_same fun T hT=>((ihp T hT).2.2.2.2.1 (hps T hT)).2]
    refine ⟨good_node.2 ⟨by rw [List.length_map];exact hn,⟨hw,he⟩,fun T hT=>?_⟩,?_,?_,hsh,hval,?_⟩
    ·obtain ⟨S,hS,rfl⟩:=List.mem_map.1 hT
     exact (ihp S hS).1
    ·rw [deepR,deepR]
     exact Nat.succ_le_succ (deep_le (foldT L) rfl fun T hT=>(ihp T hT).2.1)
    ·rw [Tr.flat,Tr.flat,List.length_append,List.length_append]
     exact Nat.succ_le_succ (flatAll_len fun T hT=>(ihp T hT).2.2.1)
    ·have hwr2:wrT L (.node x (ps.map (foldT L))) = none:=by
      rw [← hwr]
      rw [wrT_node,wrT_node]
      unfold constT
      rw [hsh]
      split
      ·split
       ·rename_i hs;rw [(hval hs).2]
       ·rfl
      ·rfl
     rw [foldT_in hwr2 hk,map_same fun T hT=>(ihp T hT).2.2.2.2.2]
end Go.Proofs.YtlcfejgjeljjdaaGreatDoor
