/- A function for each name, as the reference has it · The built-in functions: the reference. · What the reference's File gives is the file's names · Any tree is judged, and taken apart, as the document says: t · Walk: what is handed back. · Parameters copied: slices.Clone. · Rows of functions of one's own: which blocks their parts lie · A function copied: the program. -/
import Derived.Test.YtbbaooeioogijaaGreatDoorMg19
import Derived.Test.YtbbaooeioogijaaGreatDoorBuilt
import Derived.Test.YtbbaooeioogijaaGreatDoorMg18
import Derived.RangeFuncNested
import Derived.RangeFuncBound
import Derived.RangeFuncCalls
import Derived.RangeFuncLeaves
import Derived.Shelf.Abstract
import Derived.WalkKit
import Derived.OwnWalkIn
import Derived.TacticsInMore
import Derived.LoopNIn
import Derived.LoopIn
import Derived.Test.YtbbaooeioogijaaGreatDoorFileE
namespace Go.Proofs.YtbbaooeioogijaaGreatDoor
def lastTo (n:ByteArray) (L:List FnU):Nat → Int
 | 0=>-1
 | k + 1=>if (L.getD k fnU0).name = n then (k:Int) else lastTo n L k
def stepR (out:List FnU) (f:FnU):List FnU:=
 if lastTo f.name out out.length < 0 then out ++ [f]
 else if (out.getD (lastTo f.name out out.length).toNat fnU0).body = [] ∧ f.body ≠ [] then out.set (lastTo f.name out out.length).toNat f else out
def rfuncsN (L:List FnU):List FnU:=L.foldl stepR []
theorem lastTo_range (n:ByteArray) (L:List FnU):∀ k,lastTo n L k = -1 ∨ ∃ i,i < k ∧ lastTo n L k = (i:Int) ∧ (L.getD i fnU0).name = n
 | 0=>.inl rfl
 | k + 1=>by
   rw [lastTo]
   by_cases h:(L.getD k fnU0).name = n
   ·exact .inr ⟨k,by omega,if_pos h,h⟩
   ·rw [if_neg h]
    rcases lastTo_range n L k with h1 | ⟨i,h1,h2,h3⟩
    ·exact .inl h1
    ·exact .inr ⟨i,by omega,h2,h3⟩
theorem lastTo_none {n:ByteArray} {L:List FnU}:∀ {k},(∀ i,i < k → (L.getD i fnU0).name ≠ n) → lastTo n L k = -1
 | 0,_=>rfl
 | k + 1,h=>by
   rw [lastTo,if_neg (h k (by omega))]
   exact lastTo_none fun i hi=>h i (by omega)
theorem lastTo_some {n:ByteArray} {L:List FnU} {k i:Nat} (hi:i < k) (hn:(L.getD i fnU0).name = n) (hu:∀ j,j < k → (L.getD j fnU0).name = n → j = i):lastTo n L k = (i:Int):=by
 rcases lastTo_range n L k with h | ⟨j,h1,h2,h3⟩
 ·exfalso
  clear hu
  induction k with
  | zero=>omega
  | succ m ih=>
    rw [lastTo] at h
    by_cases hm:(L.getD m fnU0).name = n
    ·rw [if_pos hm] at h;omega
    ·rw [if_neg hm] at h
     rcases Nat.lt_or_ge i m with h' | h'
     ·exact ih h' h
     ·obtain rfl:i = m:=by omega
      exact hm hn
 ·rw [h2,hu j h1 h3]
theorem oneF_stepR {s s':FileN} {x:FnU} (h:FileOk s) (e:oneF s x = .inr s'):s'.funcs = stepR s.funcs x:=by
 unfold oneF at e
 unfold stepR
 split at e
 ·rename_i b hb
  split at e
  ·cases e
  rename_i hk
  have hk2:b.kind = 2:=by simpa using hk
  obtain ⟨_,hi,hn⟩:=h.func hb hk2
  have hl:lastTo x.name s.funcs s.funcs.length = (b.idx.toNat:Int):=lastTo_some hi hn fun j hj hjn=>h.uniq hj hi (hjn.trans hn.symm)
  rw [hl,if_neg (by omega)]
  simp only [Int.toNat_natCast]
  split at e
  ·cases e
  rename_i hbd
  split at e
  ·cases e
  split at e
  ·rename_i hx
   cases e
   rw [if_pos ⟨by
    rcases hq:(s.funcs.getD b.idx.toNat fnU0).body with _ | ⟨y,r⟩
    ·rfl
    ·exact absurd ⟨hx,by rw [hq];simp⟩ hbd,hx⟩]
  ·rename_i hx
   cases e
   rw [if_neg (fun h=>hx h.2)]
 ·rename_i hb
  split at e
  ·cases e
  ·cases e
   rw [lastTo_none (fun i hi hn=>by
    have h2:=look_none hb
    rw [← hn,h.has i hi] at h2
    cases h2),if_pos (by omega)]
theorem funcsN_stepR:∀ {L:List FnU} {s s':FileN},FileOk s → funcsN L s = .inr s' → s'.funcs = L.foldl stepR s.funcs
 | [],s,s',_,e=>by
   rw [funcsN] at e
   cases e
   rfl
 | x :: r,s,s',h,e=>by
   rw [funcsN] at e
   rcases hx:oneF s x with c | s1
   ·rw [hx] at e;cases e
   ·rw [hx] at e
    rw [List.foldl_cons,← oneF_stepR h hx]
    exact funcsN_stepR (oneF_ok h hx).1 e
theorem fileN_rfuncs {u:UnU} {s:FileN} (e:fileN u = .inr s):s.funcs = rfuncsN u.funcs:=by
 unfold fileN at e
 split at e
 ·cases e
 rcases hg:globsN u.globals 0 ⟨[],[]⟩ with f | s1
 ·rw [hg] at e;cases e
 ·rw [hg] at e
  obtain ⟨h1,h2⟩:=globsN_ok fileOk_nil hg
  rw [funcsN_stepR h1 e,h2]
  rfl
end Go.Proofs.YtbbaooeioogijaaGreatDoor
namespace Go.Proofs.YtbbaooeioogijaaGreatDoor
open Go.RowKit Go.Maps
def bltN (i:Nat):ByteArray:=(builtL.getD i (⟨#[]⟩,⟨#[]⟩)).1
def builtI (s:ByteArray):Int:=(builtL.findIdx? fun q=>decide (q.1 = s)).elim (-1) fun i=>(i:Int)
theorem builtL_len:builtL.length = 10:=rfl
theorem bltN_get {i:Nat} (h:i < builtL.length):(builtL[i]).1 = bltN i:=by
 unfold bltN
 rw [List.getD_eq_getElem?_getD,List.getElem?_eq_getElem h]
 rfl
theorem builtI_at {s:ByteArray} {i:Nat} (hi:i < 10) (hn:∀ j,j < i → bltN j ≠ s) (he:bltN i = s):builtI s = i:=by
 have:builtL.findIdx? (fun q=>decide (q.1 = s)) = some i:=by
  rw [List.findIdx?_eq_some_iff_getElem]
  refine ⟨hi,decide_eq_true ((bltN_get hi).trans he),fun j hj=>?_⟩
  have h2:=hn j hj
  rw [← bltN_get (Nat.lt_trans hj hi)] at h2
  simpa using h2
 unfold builtI
 rw [this]
 rfl
theorem builtI_none {s:ByteArray} (hn:∀ j,j < 10 → bltN j ≠ s):builtI s = -1:=by
 have:builtL.findIdx? (fun q=>decide (q.1 = s)) = none:=by
  rw [List.findIdx?_eq_none_iff]
  intro x hx
  obtain ⟨j,hj,rfl⟩:=List.getElem_of_mem hx
  have h2:=hn j hj
  rw [← bltN_get hj] at h2
  simpa using h2
 unfold builtI
 rw [this]
 rfl
set_option maxRecDepth 100000 in
set_option maxHeartbeats 4000000 in
theorem refBuilt_ok (w:World):Calls Tryz.prog 14 #[] w fun e w'=>e = .returned (.slice (some ⟨w.heap.size,0,none⟩) 10 10) ∧ w' = w.alloc (.cells bltCs 50):=by
 go_enter Tryz.func14,Tryz.ntmps14
 go_wp2_with fail
 go_ret
 exact ⟨rfl,rfl⟩
theorem refBuilt_at (w:World):Calls Tryz.prog 14 #[] w fun e w'=>e = .returned (.slice (some ⟨w.heap.size,0,none⟩) 10 10) ∧ Below w.heap.size w w' ∧ BltAt w' w.heap.size:=by
 refine (refBuilt_ok w).mono fun e w' ⟨h1,h2⟩=>⟨h1,?_,?_⟩
 ·rw [h2];exact ba1 w _
 ·rw [h2];exact heap_alloc_new _ _
set_option maxRecDepth 100000 in
set_option maxHeartbeats 4000000 in
theorem refBuiltI_ok (s:ByteArray) (w:World):Calls Tryz.prog 24 #[.string s] w fun e w'=>e = .returned (.int .i64 (builtI s)) ∧ Below w.heap.size w w':=by
 have HBc:=Hd (refBuilt_at w)
 go_enter Tryz.func24,Tryz.ntmps24
 go_wp2_with (go_at_call 14;(with_reducible refine HBc.out.mono ?_);rintro e w1 ⟨rfl,hb1,hbl⟩;have HB1:=Hd hb1;have HBl:=Hd hbl;clear hb1 hbl)
 go_loopg [4] 10 (fun m v4 wy=>∃ i:Nat,i ≤ 10 ∧ i + m = 10 ∧ v4 = .int .i64 (i:Int) ∧ Hid (∀ j,j < i → bltN j ≠ s) ∧ wy = w1)
 case atStart=>exact ⟨0,by omega,by omega,rfl,Hd (fun j h=>by omega),rfl⟩
 case round=>
  obtain ⟨i,hi,him,rfl,HK,rfl⟩:=hrel
  by_cases hlt:i < 10
  ·have t1:decide ((i:Int) < 10) = true:=by simp;omega
   obtain ⟨c0,c1,c2⟩:=HBl.out.cells hlt
   have he:=str_eqb (a:=bltN i) (b:=s)
   rw [show (builtL.getD i (⟨#[]⟩,⟨#[]⟩)).1 = bltN i from rfl] at c0
   by_cases hs:bltN i = s
   ·have HF:=Hd (builtI_at hlt HK.out hs)
    rw [decide_eq_true hs] at he
    clear hs
    generalize bltN i = bn at *
    go_wp2_with fail
    go_ret
    exact ⟨by rw [HF.out];rfl,HB1.out⟩
   ·have HK2:=Hd (show ∀ j,j < i + 1 → bltN j ≠ s from fun j hj=>by
     rcases Nat.lt_or_ge j i with h' | h'
     ·exact HK.out j h'
     ·obtain rfl:j = i:=by omega
      exact hs)
    rw [decide_eq_false hs] at he
    clear hs
    generalize bltN i = bn at *
    go_wp2_with fail
    go_roundg (10 - (i + 1))
    case measure=>omega
    case rel=>exact ⟨i + 1,by omega,by omega,by rw [Int.natCast_add];rfl,HK2,rfl⟩
  ·obtain rfl:i = 10:=by omega
   have HF:=Hd (builtI_none HK.out)
   go_wp2_with fail
   go_ret
   exact ⟨by rw [HF.out];rfl,HB1.out⟩
end Go.Proofs.YtbbaooeioogijaaGreatDoor
namespace Go.Proofs.YtbbaooeioogijaaGreatDoor
theorem entB_none {L:List (ByteArray × Bnd)} {n:ByteArray}:entB L n = none ↔ ∀ q ∈ L,q.1 ≠ n:=by
 unfold entB
 rw [Option.map_eq_none_iff,List.find?_eq_none]
 simp
theorem entB_mem {L:List (ByteArray × Bnd)} {n:ByteArray} {b:Bnd} (h:entB L n = some b):(n,b) ∈ L:=by
 unfold entB at h
 rw [Option.map_eq_some_iff] at h
 obtain ⟨q,hq,rfl⟩:=h
 have h1:=List.find?_some hq
 have h2:=List.mem_of_find?_eq_some hq
 simp only [decide_eq_true_eq] at h1
 subst h1
 exact h2
theorem builtI_cases (n:ByteArray):(builtI n = -1 ∧ entB bltE n = none) ∨ (0 ≤ builtI n ∧ ∃ b,entB bltE n = some b):=by
 rcases h:builtL.findIdx? (fun q=>decide (q.1 = n)) with _ | i
 ·left
  refine ⟨by unfold builtI;rw [h];rfl,entB_none.2 fun q hq=>?_⟩
  unfold bltE at hq
  obtain ⟨i,hi,rfl⟩:=List.mem_map.1 hq
  rw [List.findIdx?_eq_none_iff] at h
  have h10:i < builtL.length:=by rw [builtL_len];exact List.mem_range.1 hi
  have h1:=h _ (List.getElem_mem h10)
  rw [bltN_get h10] at h1
  exact show bltN i ≠ n from by simpa using h1
 ·right
  refine ⟨by unfold builtI;rw [h];show (0:Int) ≤ (i:Int);omega,?_⟩
  rcases e:entB bltE n with _ | b
  ·exfalso
   rw [List.findIdx?_eq_some_iff_getElem] at h
   obtain ⟨hi,h1,_⟩:=h
   rw [bltN_get hi] at h1
   refine entB_none.1 e (bltN i,_) (List.mem_map.2 ⟨i,List.mem_range.2 (by rwa [builtL_len] at hi),rfl⟩) (by simpa using h1)
  ·exact ⟨b,rfl⟩
structure RfOk (s:FileN) (G:Nat) (B:List ByteArray):Prop where
 ok:FileOk s
 len:s.ents.length = G + s.funcs.length
 uniq:∀ q ∈ s.ents,entB s.ents q.1 = some q.2
 kinds:∀ i (h:i < s.ents.length),s.ents[i].2.kind = if i < G then 1 else 2
 blt:∀ q ∈ s.ents,builtI q.1 < 0
 bodies:∀ n,n ∈ B ↔ ∃ f ∈ s.funcs,f.name = n ∧ f.body ≠ []
theorem rfOk_nil:RfOk ⟨[],[]⟩ 0 []:=⟨fileOk_nil,rfl,(fun q h=>by cases h),(fun i h=>by cases h),(fun q h=>by cases h),(fun n=>by simp)⟩
theorem look_ex {s:FileN} {n:ByteArray} (h:n ∈ s.ents.map Prod.fst ∨ 0 ≤ builtI n):∃ b,s.look n = some b:=by
 unfold FileN.look
 rcases e:entB s.ents n with _ | b
 ·rcases h with h | h
  ·obtain ⟨q,hq,rfl⟩:=List.mem_map.1 h
   exact absurd rfl (entB_none.1 e q hq)
  ·rcases builtI_cases n with ⟨h1,_⟩ | ⟨_,b,h2⟩
   ·omega
   ·exact ⟨b,h2⟩
 ·exact ⟨b,rfl⟩
theorem look_no {s:FileN} {n:ByteArray} (h:n ∉ s.ents.map Prod.fst) (hb:builtI n < 0):s.look n = none:=by
 unfold FileN.look
 have e:entB s.ents n = none:=entB_none.2 fun q hq e=>h (List.mem_map.2 ⟨q,hq,e⟩)
 rw [e]
 rcases builtI_cases n with ⟨_,h2⟩ | ⟨h1,_⟩
 ·exact h2
 ·omega
theorem uniq_snoc {L:List (ByteArray × Bnd)} {n:ByteArray} {b:Bnd} (h:∀ q ∈ L,entB L q.1 = some q.2) (hn:n ∉ L.map Prod.fst):∀ q ∈ L ++ [(n,b)],entB (L ++ [(n,b)]) q.1 = some q.2:=by
 intro q hq
 rw [entB_snoc]
 rcases List.mem_append.1 hq with h1 | h1
 ·rw [h q h1]
 ·rw [List.mem_singleton] at h1
  subst h1
  have e:entB L n = none:=entB_none.2 fun q hq e=>hn (List.mem_map.2 ⟨q,hq,e⟩)
  rw [e]
  simp
theorem RfOk.glob {s:FileN} {n:ByteArray} (h:RfOk s s.ents.length []) (hn:n ∉ s.ents.map Prod.fst) (hb:builtI n < 0) (i:Int) (t:ByteArray):RfOk (s.put n ⟨1,i,t⟩) (s.put n ⟨1,i,t⟩).ents.length []:=by
 have hl:=h.len
 have hf:s.funcs = []:=List.eq_nil_of_length_eq_zero (by omega)
 refine ⟨h.ok.glob (look_no hn hb) i t,?_,uniq_snoc h.uniq hn,fun j hj=>?_,fun q hq=>?_,h.bodies⟩
 ·show _ = _ + s.funcs.length
  rw [hf];rfl
 ·rw [if_pos hj]
  have hj':j < (s.ents ++ [(n,(⟨1,i,t⟩:Bnd))]).length:=hj
  show ((s.ents ++ [(n,(⟨1,i,t⟩:Bnd))])[j]'hj').2.kind = 1
  rcases Nat.lt_or_ge j s.ents.length with h1 | h1
  ·rw [List.getElem_append_left h1,h.kinds j h1,if_pos h1]
  ·rw [List.getElem_append_right h1]
   simp
 ·rcases List.mem_append.1 (show q ∈ s.ents ++ [(n,(⟨1,i,t⟩:Bnd))] from hq) with h1 | h1
  ·exact h.blt q h1
  ·rw [List.mem_singleton] at h1
   subst h1
   exact hb
theorem RfOk.func {s:FileN} {G:Nat} {B:List ByteArray} (h:RfOk s G B) {k:Nat} (hk:k < s.ents.length) (hG:G ≤ k):∃ i,i < s.funcs.length ∧ (s.funcs.getD i fnU0).name = s.ents[k].1 ∧ (s.funcs.getD i fnU0).type = s.ents[k].2.type ∧ s.look s.ents[k].1 = some ⟨2,(i:Int),s.ents[k].2.type⟩:=by
 have h1:=h.uniq _ (List.getElem_mem hk)
 have h2:=h.kinds k hk
 rw [if_neg (by omega)] at h2
 obtain ⟨_,h4⟩:=h.ok.kinds _ _ h1
 obtain ⟨h5,h6,h7⟩:=h4 h2
 refine ⟨_,h6,h7,?_,?_⟩
 ·have h8:=h.ok.has _ h6
  rw [h7,h1] at h8
  exact (congrArg Bnd.type (Option.some.inj h8)).symm
 ·rw [look_ent h1]
  have h8:=h.ok.has _ h6
  rw [h7,h1] at h8
  have h9:=Option.some.inj h8
  have h10:=congrArg Bnd.type h9
  simp only at h10
  exact congrArg some (h9.trans (by rw [h10]))
theorem RfOk.six {s:FileN} {G:Nat} {B:List ByteArray} (h:RfOk s G B) {x:FnU} (hx:x.name ∈ (s.ents.map Prod.fst).take G ∨ 0 ≤ builtI x.name ∨ (x.body ≠ [] ∧ x.name ∈ B)):oneF s x = .inl 6:=by
 unfold oneF
 rcases hx with hx | hx | ⟨hx,hb⟩
 ·obtain ⟨i,hi,e⟩:=List.getElem_of_mem hx
  have hi1:i < G ∧ i < s.ents.length:=by
   rw [List.length_take,List.length_map] at hi;omega
  rw [List.getElem_take,List.getElem_map] at e
  have h1:=h.uniq _ (List.getElem_mem hi1.2)
  have h2:=h.kinds i hi1.2
  rw [if_pos hi1.1] at h2
  rw [e] at h1
  rw [look_ent h1]
  simp only
  rw [if_pos (by rw [h2];decide)]
 ·rcases builtI_cases x.name with ⟨h1,_⟩ | ⟨_,b,h2⟩
  ·omega
  rcases e:entB s.ents x.name with _ | c
  ·have h3:s.look x.name = some b:=by unfold FileN.look;rw [e];exact h2
   rw [h3]
   simp only
   rw [if_pos (by rw [bltE_kind h2];decide)]
  ·have:=h.blt _ (entB_mem e)
   simp only at this
   omega
 ·obtain ⟨f,hf,hn,hfb⟩:=(h.bodies _).1 hb
  obtain ⟨i,hi,rfl⟩:=List.getElem_of_mem hf
  have hd:s.funcs.getD i fnU0 = s.funcs[i]:=by rw [List.getD_eq_getElem?_getD,List.getElem?_eq_getElem hi];rfl
  have h1:=h.ok.has i hi
  rw [hd,hn] at h1
  rw [look_ent h1]
  simp only
  rw [if_neg (by decide),Int.toNat_natCast,hd,if_pos ⟨hx,hfb⟩]
structure NotSix (s:FileN) (G:Nat) (B:List ByteArray) (x:FnU):Prop where
 glob:x.name ∉ (s.ents.map Prod.fst).take G
 blt:builtI x.name < 0
 body:x.body ≠ [] → x.name ∉ B
theorem RfOk.type {s:FileN} {G:Nat} {B:List ByteArray} (h:RfOk s G B) {x:FnU} (hx:NotSix s G B x) {k:Nat} (hk:k < s.ents.length) (hG:G ≤ k) (hn:s.ents[k].1 = x.name) (ht:s.ents[k].2.type ≠ x.type):oneF s x = .inl 131:=by
 obtain ⟨i,hi,h1,h2,h3⟩:=h.func hk hG
 unfold oneF
 rw [← hn,h3]
 simp only
 rw [if_neg (by decide),Int.toNat_natCast,if_neg,if_pos (by rw [h2];exact ht)]
 rintro ⟨h4,h5⟩
 refine hx.body h4 ((h.bodies _).2 ⟨s.funcs.getD i fnU0,?_,by rw [h1,hn],h5⟩)
 rw [List.getD_eq_getElem?_getD,List.getElem?_eq_getElem hi]
 exact List.getElem_mem hi
def bodR (B:List ByteArray) (x:FnU):List ByteArray:=if x.body = [] then B else B ++ [x.name]
theorem RfOk.same {s:FileN} {G:Nat} {B:List ByteArray} (h:RfOk s G B) {x:FnU} (hx:NotSix s G B x) {k:Nat} (hk:k < s.ents.length) (hG:G ≤ k) (hn:s.ents[k].1 = x.name) (ht:s.ents[k].2.type = x.type):∃ s',oneF s x = .inr s' ∧ s'.ents = s.ents ∧ RfOk s' G (bodR B x):=by
 obtain ⟨i,hi,h1,h2,h3⟩:=h.func hk hG
 have hd:s.funcs.getD i fnU0 = s.funcs[i]:=by rw [List.getD_eq_getElem?_getD,List.getElem?_eq_getElem hi];rfl
 have e:oneF s x = if x.body ≠ [] then .inr ⟨s.ents,s.funcs.set i x⟩ else .inr s:=by
  unfold oneF
  rw [← hn,h3]
  simp only
  rw [if_neg (by decide),Int.toNat_natCast,if_neg,if_neg (by rw [h2];simpa using ht)]
  rintro ⟨h4,h5⟩
  refine hx.body h4 ((h.bodies _).2 ⟨s.funcs.getD i fnU0,?_,by rw [h1,hn],h5⟩)
  rw [hd]
  exact List.getElem_mem hi
 unfold bodR
 by_cases hb:x.body = []
 ·rw [if_neg (by simpa using hb)] at e
  rw [if_pos hb]
  exact ⟨s,e,rfl,h⟩
 ·rw [if_pos hb] at e
  rw [if_neg hb]
  refine ⟨_,e,rfl,h.ok.set (by rw [h1,hn]) (by rw [h2,ht]),?_,h.uniq,h.kinds,h.blt,fun n=>?_⟩
  ·simp only [List.length_set];exact h.len
  ·simp only
   rw [List.mem_append,List.mem_singleton,h.bodies n]
   constructor
   ·rintro (⟨f,hf,h5,h6⟩ | rfl)
    ·obtain ⟨j,hj,rfl⟩:=List.getElem_of_mem hf
     refine ⟨s.funcs[j],?_,h5,h6⟩
     have hij:i ≠ j:=by
      rintro rfl
      exact hx.body hb ((h.bodies _).2 ⟨s.funcs[i],List.getElem_mem hi,by rw [← hd,h1,hn],h6⟩)
     have:(s.funcs.set i x)[j]'(by simpa using hj) = s.funcs[j]:=List.getElem_set_ne hij _
     rw [← this]
     exact List.getElem_mem _
    ·exact ⟨x,List.mem_set hi x,rfl,hb⟩
   ·rintro ⟨f,hf,h5,h6⟩
    rcases List.mem_or_eq_of_mem_set hf with h7 | rfl
    ·exact .inl ⟨f,h7,h5,h6⟩
    ·exact .inr h5.symm
theorem RfOk.new {s:FileN} {G:Nat} {B:List ByteArray} (h:RfOk s G B) {x:FnU} (hx:NotSix s G B x) (hn:∀ k (hk:k < s.ents.length),G ≤ k → s.ents[k].1 ≠ x.name) :
 oneF s x = (if 128 ≤ s.ents.length - G then .inl 3 else .inr ⟨s.ents ++ [(x.name,⟨2,((s.ents.length - G:Nat):Int),x.type⟩)],s.funcs ++ [x]⟩) ∧ RfOk ⟨s.ents ++ [(x.name,⟨2,((s.ents.length - G:Nat):Int),x.type⟩)],s.funcs ++ [x]⟩ G (bodR B x):=by
 have hl:=h.len
 have hfl:s.ents.length - G = s.funcs.length:=by omega
 have hno:x.name ∉ s.ents.map Prod.fst:=fun hm=>by
  obtain ⟨k,hk,e⟩:=List.getElem_of_mem hm
  rw [List.length_map] at hk
  rw [List.getElem_map] at e
  rcases Nat.lt_or_ge k G with h1 | h1
  ·refine hx.glob (List.mem_take_iff_getElem.2 ⟨k,by rw [List.length_map];omega,?_⟩)
   rw [List.getElem_map,e]
  ·exact hn k hk h1 e
 have hlk:=look_no hno hx.blt
 rw [hfl]
 refine ⟨?_,h.ok.new hlk,?_,uniq_snoc h.uniq hno,fun j hj=>?_,fun q hq=>?_,fun n=>?_⟩
 ·unfold oneF
  rw [hlk]
 ·simp only [List.length_append,List.length_cons,List.length_nil];omega
 ·simp only
  rcases Nat.lt_or_ge j s.ents.length with h1 | h1
  ·rw [List.getElem_append_left h1,h.kinds j h1]
  ·rw [List.getElem_append_right h1,if_neg (by omega)]
   simp
 ·rcases List.mem_append.1 hq with h1 | h1
  ·exact h.blt q h1
  ·rw [List.mem_singleton] at h1
   subst h1
   exact hx.blt
 ·simp only
  unfold bodR
  by_cases hb:x.body = []
  ·rw [if_pos hb,h.bodies n]
   constructor
   ·rintro ⟨f,hf,h5,h6⟩
    exact ⟨f,List.mem_append_left _ hf,h5,h6⟩
   ·rintro ⟨f,hf,h5,h6⟩
    rcases List.mem_append.1 hf with h1 | h1
    ·exact ⟨f,h1,h5,h6⟩
    ·rw [List.mem_singleton] at h1
     subst h1
     exact absurd hb h6
  ·rw [if_neg hb,List.mem_append,List.mem_singleton,h.bodies n]
   constructor
   ·rintro (⟨f,hf,h5,h6⟩ | rfl)
    ·exact ⟨f,List.mem_append_left _ hf,h5,h6⟩
    ·exact ⟨x,List.mem_append_right _ (List.mem_singleton.2 rfl),rfl,hb⟩
   ·rintro ⟨f,hf,h5,h6⟩
    rcases List.mem_append.1 hf with h1 | h1
    ·exact .inl ⟨f,h1,h5,h6⟩
    ·rw [List.mem_singleton] at h1
     subst h1
     exact .inr h5.symm
theorem globsN_get {L:List GlU} {i:Nat} (hi:i < L.length) (s:FileN):globsN (L.drop i) i s = match s.look L[i].var.name with
 | some _=>.inl (L[i].at_,6)
 | none=>globsN (L.drop (i + 1)) (i + 1) (s.put L[i].var.name ⟨1,(i:Int),L[i].var.type⟩):=by
 rw [List.drop_eq_getElem_cons hi,globsN]
 cases s.look L[i].var.name <;> rfl
theorem funcsN_get {L:List FnU} {i:Nat} (hi:i < L.length) (s:FileN):funcsN (L.drop i) s = match oneF s L[i] with
 | .inl c=>.inl (L[i].at_,c)
 | .inr s'=>funcsN (L.drop (i + 1)) s':=by
 rw [List.drop_eq_getElem_cons hi,funcsN]
 cases oneF s L[i] <;> rfl
def GlobI (u:UnU) (i:Nat) (N:List ByteArray) (O:List Bnd):Prop:=∃ s,N = s.ents.map Prod.fst ∧ O = s.ents.map Prod.snd ∧ RfOk s s.ents.length [] ∧ fileN u = match globsN (u.globals.drop i) i s with
 | .inl f=>.inl f
 | .inr s=>funcsN u.funcs s
def FunI (u:UnU) (G i:Nat) (N:List ByteArray) (O:List Bnd) (S:List ByteArray):Prop:=∃ s,N = s.ents.map Prod.fst ∧ O = s.ents.map Prod.snd ∧ RfOk s G S ∧ fileN u = funcsN (u.funcs.drop i) s
theorem GlobI.start {u:UnU} (h:(unitE u).2 = 0):GlobI u 0 [] []:=⟨⟨[],[]⟩,rfl,rfl,rfOk_nil,by
 unfold fileN
 rw [if_neg (by simpa using h),List.drop_zero]
 cases globsN u.globals 0 ⟨[],[]⟩ <;> rfl⟩
theorem GlobI.bad {u:UnU} {i:Nat} {N:List ByteArray} {O:List Bnd} (h:GlobI u i N O) (hi:i < u.globals.length) (hx:u.globals[i].var.name ∈ N ∨ 0 ≤ builtI u.globals[i].var.name):fileN u = .inl (u.globals[i].at_,6):=by
 obtain ⟨s,rfl,_,_,e⟩:=h
 obtain ⟨b,hb⟩:=look_ex hx
 rw [e,globsN_get hi,hb]
theorem GlobI.next {u:UnU} {i:Nat} {N:List ByteArray} {O:List Bnd} (h:GlobI u i N O) (hi:i < u.globals.length) (hn:u.globals[i].var.name ∉ N) (hb:builtI u.globals[i].var.name < 0):GlobI u (i + 1) (N ++ [u.globals[i].var.name]) (O ++ [⟨1,(i:Int),u.globals[i].var.type⟩]):=by
 obtain ⟨s,rfl,rfl,hr,e⟩:=h
 refine ⟨s.put u.globals[i].var.name ⟨1,(i:Int),u.globals[i].var.type⟩,?_,?_,hr.glob hn hb _ _,?_⟩
 ·unfold FileN.put;simp
 ·unfold FileN.put;simp
 ·rw [e,globsN_get hi,look_no hn hb]
theorem GlobI.done {u:UnU} {N:List ByteArray} {O:List Bnd} (h:GlobI u u.globals.length N O):FunI u N.length 0 N O []:=by
 obtain ⟨s,rfl,rfl,hr,e⟩:=h
 refine ⟨s,rfl,rfl,by rw [List.length_map];exact hr,?_⟩
 rw [e,List.drop_length,globsN,List.drop_zero]
section
variable {u:UnU} {G i:Nat} {N:List ByteArray} {O:List Bnd} {S:List ByteArray}
theorem FunI.six (h:FunI u G i N O S) (hi:i < u.funcs.length) (hx:u.funcs[i].name ∈ N.take G ∨ 0 ≤ builtI u.funcs[i].name ∨ (u.funcs[i].body ≠ [] ∧ u.funcs[i].name ∈ S)):fileN u = .inl (u.funcs[i].at_,6):=by
 obtain ⟨s,rfl,rfl,hr,e⟩:=h
 rw [e,funcsN_get hi,hr.six hx]
structure NotSixI (G:Nat) (N S:List ByteArray) (x:FnU):Prop where
 glob:x.name ∉ N.take G
 blt:builtI x.name < 0
 body:x.body ≠ [] → x.name ∉ S
theorem FunI.type (h:FunI u G i N O S) (hi:i < u.funcs.length) (hx:NotSixI G N S u.funcs[i]) {k:Nat} (hk:k < N.length) (hk':k < O.length) (hG:G ≤ k) (hn:N[k] = u.funcs[i].name) (ht:O[k].type ≠ u.funcs[i].type):fileN u = .inl (u.funcs[i].at_,131):=by
 obtain ⟨s,rfl,rfl,hr,e⟩:=h
 rw [List.length_map] at hk
 rw [List.getElem_map] at hn ht
 rw [e,funcsN_get hi,hr.type ⟨hx.glob,hx.blt,hx.body⟩ hk hG hn ht]
theorem FunI.same (h:FunI u G i N O S) (hi:i < u.funcs.length) (hx:NotSixI G N S u.funcs[i]) {k:Nat} (hk:k < N.length) (hk':k < O.length) (hG:G ≤ k) (hn:N[k] = u.funcs[i].name) (ht:O[k].type = u.funcs[i].type):FunI u G (i + 1) N O (bodR S u.funcs[i]):=by
 obtain ⟨s,rfl,rfl,hr,e⟩:=h
 rw [List.length_map] at hk
 rw [List.getElem_map] at hn ht
 obtain ⟨s',h1,h2,h3⟩:=hr.same ⟨hx.glob,hx.blt,hx.body⟩ hk hG hn ht
 exact ⟨s',by rw [h2],by rw [h2],h3,by rw [e,funcsN_get hi,h1]⟩
theorem FunI.long (h:FunI u G i N O S) (hi:i < u.funcs.length) (hx:NotSixI G N S u.funcs[i]) (hn:∀ k (hk:k < N.length),G ≤ k → N[k] ≠ u.funcs[i].name) (hl:128 ≤ N.length - G):fileN u = .inl (u.funcs[i].at_,3):=by
 obtain ⟨s,rfl,rfl,hr,e⟩:=h
 rw [List.length_map] at hl
 rw [e,funcsN_get hi,(hr.new ⟨hx.glob,hx.blt,hx.body⟩ (fun k hk hG e=>hn k (by rwa [List.length_map]) hG (by rw [List.getElem_map];exact e))).1,if_pos hl]
theorem FunI.new (h:FunI u G i N O S) (hi:i < u.funcs.length) (hx:NotSixI G N S u.funcs[i]) (hn:∀ k (hk:k < N.length),G ≤ k → N[k] ≠ u.funcs[i].name) (hl:¬ 128 ≤ N.length - G):FunI u G (i + 1) (N ++ [u.funcs[i].name]) (O ++ [⟨2,((N.length - G:Nat):Int),u.funcs[i].type⟩]) (bodR S u.funcs[i]):=by
 obtain ⟨s,rfl,rfl,hr,e⟩:=h
 rw [List.length_map] at hl ⊢
 obtain ⟨h1,h2⟩:=hr.new ⟨hx.glob,hx.blt,hx.body⟩ (fun k hk hG e=>hn k (by rwa [List.length_map]) hG (by rw [List.getElem_map];exact e))
 exact ⟨_,by simp,by simp,h2,by rw [e,funcsN_get hi,h1,if_neg hl]⟩
theorem FunI.done (h:FunI u G u.funcs.length N O S):∃ s,fileN u = .inr s ∧ N = s.ents.map Prod.fst ∧ O = s.ents.map Prod.snd:=by
 obtain ⟨s,h1,h2,_,e⟩:=h
 exact ⟨s,by rw [e,List.drop_length,funcsN],h1,h2⟩
end
end Go.Proofs.YtbbaooeioogijaaGreatDoor
namespace Go.Proofs.YtbbaooeioogijaaGreatDoor
open Go.RowKit
theorem NdRow.opened {w:World} {base:Nat} {v:Value} {L:List Nd} (h:NdRow w base v L):∃ a cap,v = .slice a L.length cap ∧ L.length ≤ cap ∧ cap ≤ maxLen ∧ IsNds w.heap.size w a L ∧ (a = none → L = [] ∧ cap = 0):=by
 obtain ⟨a,cap,hv,hN,hn⟩:=own_sl nd_len h rfl
 refine ⟨a,cap,hv,?_,?_,hN,hn⟩
 ·rcases h.2 with ⟨e,h0⟩ | ⟨g,c,cur,e,_,_,h1,_⟩
  ·omega
  ·rw [hv] at e;simp only [Value.slice.injEq] at e;omega
 ·rcases h.2 with ⟨e,h0⟩ | ⟨g,c,cur,e,_,_,_,h1,_⟩
  ·rw [hv] at e;simp only [Value.slice.injEq] at e;rw [e.2.2];exact Nat.zero_le _
  ·rw [hv] at e;simp only [Value.slice.injEq] at e;rw [e.2.2];exact h1
end Go.Proofs.YtbbaooeioogijaaGreatDoor
namespace Go.Proofs.YtbbaooeioogijaaGreatDoor
open Go.RowKit
set_option maxRecDepth 100000 in
set_option maxHeartbeats 4000000 in
theorem clone_some (ad:Addr) (cap:Nat) (t:List Nd) (w:World) (hI:IsNds w.heap.size w (some ad) t) (hz:t.length * 64 ≤ 140737488351232) :
 Calls Tryz.prog 41 #[.slice (some ad) t.length cap] w fun e w'=>(∃ v,e = .returned v ∧ NdRow w' w.heap.size v t) ∧ Below w.heap.size w w':=by
 obtain ⟨i0,hi,hz0,hz1,hz2⟩:=info_parts infoNd
 have HI0:=Hd (And.intro hi (And.intro hz0 (And.intro hz1 hz2)))
 clear hi hz0 hz1 hz2
 have HI:=Hd hI
 have HL:=Hd (flat_len nd_len t)
 clear hI
 have hnl:=fun wx=>Lib.run_eql_slice_nil (P:=Tryz.prog) wx 43 47 (some ad) t.length cap 0 0 Tryz.underlying43
 simp only [Option.isNone_some] at hnl
 go_enter Tryz.func41,Tryz.ntmps41
 go_wp2_with (at_builtin;go_loud (refine wpList_append_own _ rfl _ _ _ rfl w.heap.size 47 i0 _ 6 64 Tryz.underlying43 HI0.out.1 HI0.out.2.1 HI0.out.2.2.1 HI0.out.2.2.2 rfl (by decide) _ 0 [] rfl (nil_row _ (Nat.le_refl _)) ad t.length cap (t.flatMap ndCells) rfl HL.out (sl_news nd_len (HI.out.below (ba1 _ _) (Nat.le_refl _))) (nd_one t) (by unfold maxLen;omega) (by omega) (ba1 _ _).size ?_))
 intro v' w' hown hgrow _
 go_wp2_with fail
 go_ret
 refine ⟨⟨v',rfl,by unfold NdRow;simpa using hown⟩,(ba1 _ _).grown hgrow (ba1 _ _).size (fun k hk=>by simp [Value.ownBlock] at hk;omega)⟩
set_option maxRecDepth 100000 in
set_option maxHeartbeats 4000000 in
theorem clone_any (a:Option Addr) (cap:Nat) (t:List Nd) (w:World) (hI:IsNds w.heap.size w a t) (hz:t.length * 64 ≤ 140737488351232) (hnil:a = none → t = [] ∧ cap = 0) :
 Calls Tryz.prog 41 #[.slice a t.length cap] w fun e w'=>(∃ v,e = .returned v ∧ NdRow w' w.heap.size v t) ∧ Below w.heap.size w w':=by
 cases a with
 | none=>
   obtain ⟨rfl,rfl⟩:=hnil rfl
   clear hI hnil hz
   have hnl:=fun wx=>Lib.run_eql_slice_nil (P:=Tryz.prog) wx 43 47 none 0 0 0 0 Tryz.underlying43
   simp only [Option.isNone_none] at hnl
   go_enter Tryz.func41,Tryz.ntmps41
   go_wp2_with fail
   go_ret
   exact ⟨⟨_,rfl,nd_nil _ _⟩,Below.refl _ _⟩
 | some ad=>exact clone_some ad cap t w hI hz
theorem NdRow.far {w:World} {base:Nat} {v:Value} {L:List Nd} (h:NdRow w base v L):∀ (g off n cap:Nat),v = .slice (some ⟨g,off,none⟩) n cap → base ≤ g:=fun g off n cap hv=>by
 subst hv
 exact (World.ownsRow.lt h g rfl).1
section
variable (a:Option Addr) (cap:Nat) (t:List Nd) (w:World) (hE:TE w) (hI:IsNds w.heap.size w a t) (hOk:∀ x ∈ t,NdOk x) (hz:t.length * 64 ≤ 140737488351232) (hnil:a = none → t = [] ∧ cap = 0)
include hE hI hOk hz hnil
end
end Go.Proofs.YtbbaooeioogijaaGreatDoor
namespace Go.Proofs.YtbbaooeioogijaaGreatDoor
open Go.RowKit
def VrRow (w:World) (base:Nat) (v:Value) (t:List VrU):Prop:=w.ownsRow base 50 3 v t.length (t.flatMap vrCells)
theorem infoVr:(Tryz.prog.info? 50).map (fun i=>(i.zero,i.size,i.bytes)) = some (some (.agg #[.string ⟨#[]⟩,.string ⟨#[]⟩,.bool false]),3,40):=by kernel_rfl
theorem nil_vrow (w:World) {base:Nat} (hb:base ≤ w.heap.size):(w.alloc (.cells #[] 50)).ownsRow base 50 3 (.slice (some ⟨w.heap.size,0,none⟩) 0 0) 0 []:=World.ownsRow_lit w #[] 0 hb (by decide) rfl
theorem vr_one (t:List VrU):∀ u ∈ t.flatMap vrCells,u.oneCell' = true:=fun u hu=>by
 obtain ⟨x,_,hx⟩:=List.mem_flatMap.1 hu
 simp only [vrCells,List.mem_cons,List.not_mem_nil,or_false] at hx
 rcases hx with rfl | rfl | rfl <;> rfl
set_option maxRecDepth 100000 in
set_option maxHeartbeats 4000000 in
theorem cloneV_some (ad:Addr) (cap:Nat) (t:List VrU) (w:World) (hI:IsSl 3 vrCells w.heap.size w (some ad) t) (hz:t.length * 40 ≤ 140737488351232) :
 Calls Tryz.prog 40 #[.slice (some ad) t.length cap] w fun e w'=>(∃ v,e = .returned v ∧ VrRow w' w.heap.size v t) ∧ Below w.heap.size w w':=by
 obtain ⟨i0,hi,hz0,hz1,hz2⟩:=info_parts infoVr
 have HI0:=Hd (And.intro hi (And.intro hz0 (And.intro hz1 hz2)))
 clear hi hz0 hz1 hz2
 have HI:=Hd hI
 have HL:=Hd (flat_len vr_len t)
 clear hI
 have hnl:=fun wx=>Lib.run_eql_slice_nil (P:=Tryz.prog) wx 41 50 (some ad) t.length cap 0 0 Tryz.underlying41
 simp only [Option.isNone_some] at hnl
 go_enter Tryz.func40,Tryz.ntmps40
 go_wp2_with (at_builtin;go_loud (refine wpList_append_own _ rfl _ _ _ rfl w.heap.size 50 i0 _ 3 40 Tryz.underlying41 HI0.out.1 HI0.out.2.1 HI0.out.2.2.1 HI0.out.2.2.2 rfl (by decide) _ 0 [] rfl (nil_vrow _ (Nat.le_refl _)) ad t.length cap (t.flatMap vrCells) rfl HL.out (sl_news vr_len (HI.out.below (ba1 _ _) (Nat.le_refl _))) (vr_one t) (by unfold maxLen;omega) (by omega) (ba1 _ _).size ?_))
 intro v' w' hown hgrow _
 go_wp2_with fail
 go_ret
 refine ⟨⟨v',rfl,by unfold VrRow;simpa using hown⟩,(ba1 _ _).grown hgrow (ba1 _ _).size (fun k hk=>by simp [Value.ownBlock] at hk;omega)⟩
set_option maxRecDepth 100000 in
set_option maxHeartbeats 4000000 in
theorem cloneV_any (a:Option Addr) (cap:Nat) (t:List VrU) (w:World) (hI:IsSl 3 vrCells w.heap.size w a t) (hz:t.length * 40 ≤ 140737488351232) (hnil:a = none → t = [] ∧ cap = 0) :
 Calls Tryz.prog 40 #[.slice a t.length cap] w fun e w'=>(∃ v,e = .returned v ∧ VrRow w' w.heap.size v t) ∧ Below w.heap.size w w':=by
 cases a with
 | none=>
   obtain ⟨rfl,rfl⟩:=hnil rfl
   clear hI hnil hz
   have hnl:=fun wx=>Lib.run_eql_slice_nil (P:=Tryz.prog) wx 41 50 none 0 0 0 0 Tryz.underlying41
   simp only [Option.isNone_none] at hnl
   go_enter Tryz.func40,Tryz.ntmps40
   go_wp2_with fail
   go_ret
   exact ⟨⟨_,rfl,rfl,.inl ⟨rfl,rfl⟩⟩,Below.refl _ _⟩
 | some ad=>exact cloneV_some ad cap t w hI hz
end Go.Proofs.YtbbaooeioogijaaGreatDoor
namespace Go.Proofs.YtbbaooeioogijaaGreatDoor
open Go.RowKit
theorem cell_sameU {w w':World} {b:Nat} (h:w'.heap[b]? = w.heap[b]?) (j:Nat):w'.cell? ⟨b,j,none⟩ = w.cell? ⟨b,j,none⟩:=by
 unfold World.cell?
 simp only [h]
theorem frozen_sameU {w w':World} {b:Nat} (h:w'.heap[b]? = w.heap[b]?) (j:Nat):w'.frozen? ⟨b,j,none⟩ = w.frozen? ⟨b,j,none⟩:=by
 unfold World.frozen?
 simp only [h]
def IsSlU {α:Type} (k:Nat) (cells:α → List Value) (P:Nat → Prop) (w:World) (a:Option Addr) (L:List α):Prop:=
 L ≠ [] → ∃ b off,a = some ⟨b,off,none⟩ ∧ P b ∧ ∀ (i:Nat) t,L[i]? = some t → ∀ (j:Nat) u,(cells t)[j]? = some u → w.cell? ⟨b,off + i * k + j,none⟩ = some u
def KeepPU (P P':Nat → Prop) (w w':World):Prop:=∀ b,P b → w'.heap[b]? = w.heap[b]? ∧ P' b
theorem IsSlU.keep {α:Type} {k:Nat} {cells:α → List Value} {P P':Nat → Prop} {w w':World} {a:Option Addr} {L:List α} (h:IsSlU k cells P w a L) (hk:KeepPU P P' w w'):IsSlU k cells P' w' a L:=fun hn=>by
 obtain ⟨b,off,e,hp,hc⟩:=h hn
 exact ⟨b,off,e,(hk b hp).2,fun i t ht j u hu=>by rw [cell_sameU (hk b hp).1];exact hc i t ht j u hu⟩
theorem IsSlU.sl {α:Type} {k:Nat} {cells:α → List Value} {P:Nat → Prop} {w:World} {a:Option Addr} {L:List α} {B:Nat} (h:IsSlU k cells P w a L) (hP:∀ b,P b → b < B):IsSl k cells B w a L:=fun hn=>by
 obtain ⟨b,off,e,hp,hc⟩:=h hn
 exact ⟨b,off,e,hP b hp,hc⟩
theorem own_slU {α:Type} {k:Nat} {cells:α → List Value} (hk:∀ a,(cells a).length = k) {w:World} {base n:Nat} {T:TypeId} {v:Value} {L:List α} (h:w.ownsRow base T k v n (L.flatMap cells)) (hn:n = L.length):∃ a cap,v = .slice a L.length cap ∧ L.length ≤ cap ∧ cap ≤ maxLen ∧ IsSlU k cells (fun b=>v.ownBlock = some b ∧ base ≤ b ∧ b < w.heap.size) w a L ∧ (a = none → L.length = 0 ∧ cap = 0):=by
 subst hn
 rcases h.2 with ⟨rfl,h0⟩ | ⟨g,cap,cur,rfl,hb,hg,hn,hc,_⟩
 ·refine ⟨none,0,by rw [h0],by omega,by decide,fun hne=>absurd (List.eq_nil_of_length_eq_zero h0) hne,fun _=>⟨h0,rfl⟩⟩
 ·exact ⟨_,cap,rfl,hn,hc,fun hne=>⟨g,0,rfl,⟨rfl,hb,lt_of_heap hg⟩,fun i t ht j u hu=>by rw [Nat.zero_add];exact own_cell hk h ht hu⟩,fun e=>by cases e⟩
abbrev OffU (B:Nat) (w:World) (v:Value):Nat → Prop:=fun b=>B ≤ b ∧ b < w.heap.size ∧ v.ownBlock ≠ some b
theorem keep_offU {B:Nat} {w w':World} {v:Value} {row:Option Nat} (hg:w.grownBy w' row) (hr:∀ r,row = some r → r < B ∨ v.ownBlock = some r):KeepPU (OffU B w v) (OffU B w' v) w w':=fun b ⟨h1,h2,h3⟩=>
 ⟨hg.block b h2 (fun e=>by rcases hr b e.symm with h | h;omega;exact h3 h),h1,Nat.lt_of_lt_of_le h2 hg.size,h3⟩
theorem keep_pushU {B:Nat} {w w':World} {v v':Value} (hg:w.grownBy w' v.ownBlock) (hv:∀ g,v'.ownBlock = some g → v.ownBlock = some g ∨ g = w.heap.size):KeepPU (OffU B w v) (OffU B w' v') w w':=fun b ⟨h1,h2,h3⟩=>
 ⟨hg.block b h2 (fun e=>h3 e.symm),h1,Nat.lt_of_lt_of_le h2 hg.size,fun e=>by
   rcases hv b e with h | h
   ·exact h3 h
   ·omega⟩
theorem grn_blwU {w w':World} (row:Option Nat) (hb:Below w.heap.size w w'):w.grownBy w' row:=⟨hb.os,hb.tape,hb.output,hb.size,fun k hk _=>hb.block k hk⟩
structure FnPU (P:Nat → Prop) (w:World) (q:FnU × Value × Value):Prop where
 name:q.1.name.size ≤ maxLen
 type:q.1.type.size ≤ maxLen
 at_:i64In q.1.at_
 params:∃ a cap,q.2.1 = .slice a q.1.params.length cap ∧ SlK 40 a q.1.params.length cap ∧ IsSlU 3 vrCells P w a q.1.params ∧ ∀ x ∈ q.1.params,VrOk x
 body:∃ a cap,q.2.2 = .slice a q.1.body.length cap ∧ SlK 64 a q.1.body.length cap ∧ IsSlU 6 ndCells P w a q.1.body ∧ ∀ x ∈ q.1.body,NdOk x
 free:q.1.body ≠ [] → ∃ b off c,q.2.2 = .slice (some ⟨b,off,none⟩) q.1.body.length c ∧ P b ∧ ∀ j,w.frozen? ⟨b,j,none⟩ = false
theorem FnPU.keep {P P':Nat → Prop} {w w':World} {q:FnU × Value × Value} (h:FnPU P w q) (hk:KeepPU P P' w w'):FnPU P' w' q:=by
 obtain ⟨a,cap,e,ho,hs,hv⟩:=h.params
 obtain ⟨a2,cap2,e2,ho2,hs2,hv2⟩:=h.body
 exact ⟨h.name,h.type,h.at_,⟨a,cap,e,ho,hs.keep hk,hv⟩,⟨a2,cap2,e2,ho2,hs2.keep hk,hv2⟩,fun hne=>by
  obtain ⟨b,off,c,e3,h3,h4⟩:=h.free hne
  exact ⟨b,off,c,e3,(hk b h3).2,fun j=>by rw [frozen_sameU (hk b h3).1];exact h4 j⟩⟩
theorem FnPU.is {P:Nat → Prop} {w:World} {q:FnU × Value × Value} {B:Nat} (h:FnPU P w q) (hP:∀ b,P b → b < B):IsFnU B w q.1 q.2.1 q.2.2:=by
 obtain ⟨a,cap,e,ho,hs,hv⟩:=h.params
 obtain ⟨a2,cap2,e2,ho2,hs2,hv2⟩:=h.body
 exact ⟨h.name,h.type,h.at_,⟨a,cap,e,ho,hs.sl hP,hv⟩,⟨a2,cap2,e2,ho2,hs2.sl hP,hv2⟩⟩
def FnsOwn (B:Nat) (w:World) (v:Value) (Q:List (FnU × Value × Value)):Prop:=w.ownsRow B 45 5 v Q.length (Q.flatMap fnUCells) ∧ ∀ q ∈ Q,FnPU (OffU B w v) w q
theorem fnsOwn_nil (B:Nat) (w:World):FnsOwn B w (.slice none 0 0) []:=⟨World.ownsRow_nil _ _ _ _,fun _ h=>by cases h⟩
theorem FnsOwn.below {B:Nat} {w w':World} {v:Value} {Q:List (FnU × Value × Value)} (h:FnsOwn B w v Q) (hb:Below w.heap.size w w'):FnsOwn B w' v Q:=
 ⟨h.1.belowed hb,fun q hq=>(h.2 q hq).keep (keep_offU (grn_blwU none hb) (fun r e=>by cases e))⟩
theorem FnsOwn.push {B:Nat} {w w':World} {v:Value} {i g cap:Nat} {Q:List (FnU × Value × Value)} {q:FnU × Value × Value} (h:FnsOwn B w v Q) (hq:FnPU (OffU B w v) w q) (hi:Q.length = i)
 (hown:w'.ownsRow B 45 5 (.slice (some ⟨g,0,none⟩) (i + 1) cap) (i + 1) (Q.flatMap fnUCells ++ fnUCells q)) (hg:w.grownBy w' v.ownBlock) (hv:v.ownBlock = some g ∨ g = w.heap.size):FnsOwn B w' (.slice (some ⟨g,0,none⟩) (i + 1) cap) (Q ++ [q]):=by
 have hkp:KeepPU (OffU B w v) (OffU B w' (.slice (some ⟨g,0,none⟩) (i + 1) cap)) w w':=keep_pushU hg (fun g' e=>by cases e;exact hv)
 refine ⟨?_,fun x hx=>?_⟩
 ·rw [List.length_append,List.flatMap_append,hi]
  simpa using hown
 ·rcases List.mem_append.1 hx with hx | hx
  ·exact (h.2 x hx).keep hkp
  ·rw [List.mem_singleton.1 hx]
   exact hq.keep hkp
end Go.Proofs.YtbbaooeioogijaaGreatDoor
namespace Go.Proofs.YtbbaooeioogijaaGreatDoor
open Go.RowKit
theorem nil_lenU {α:Type} {k n cap:Nat} {a:Option Addr} {L:List α} (h:SlK k a L.length cap) (_:n = 0):a = none → L = [] ∧ cap = 0:=fun e=>⟨List.eq_nil_of_length_eq_zero (h.2.2.2 e).1,(h.2.2.2 e).2⟩
def CopEnd (f:FnU) (w:World) (e:Ending) (w':World):Prop:=(∃ vp vb,e = .returned (.agg #[.int .i64 f.at_,.string f.name,.string f.type,vp,vb]) ∧ VrRow w' w.heap.size vp f.params ∧ NdRow w' w.heap.size vb f.body) ∧ Below w.heap.size w w'
set_option maxRecDepth 100000 in
set_option maxHeartbeats 8000000 in
theorem copied11_ok (f:FnU) (vp vb:Value) (w:World) (hf:IsFnU w.heap.size w f vp vb) :
 Calls Tryz.prog 25 #[.agg #[.int .i64 f.at_,.string f.name,.string f.type,vp,vb]] w (CopEnd f w):=by
 obtain ⟨ap,cp,rfl,hop,hsp,_⟩:=hf.params
 obtain ⟨ab,cb,rfl,hob,hsb,_⟩:=hf.body
 have hb0:=ba1 w (.cells #[.int .i64 f.at_,.string f.name,.string f.type,.slice ap f.params.length cp,.slice ab f.body.length cb] 45)
 have hb1:=hb0.alloc hb0.size (.cells #[.int .i64 0,.string ⟨#[]⟩,.string ⟨#[]⟩,.slice none 0 0,.slice none 0 0] 45)
 have hx:((w.alloc (.cells #[.int .i64 f.at_,.string f.name,.string f.type,.slice ap f.params.length cp,.slice ab f.body.length cb] 45)).alloc (.cells #[.int .i64 0,.string ⟨#[]⟩,.string ⟨#[]⟩,.slice none 0 0,.slice none 0 0] 45)).heap[w.heap.size]? = some (.cells #[.int .i64 f.at_,.string f.name,.string f.type,.slice ap f.params.length cp,.slice ab f.body.length cb] 45 (0,0)):=((ba1 _ _).block _ (lt_of_heap (heap_alloc_new w _))).trans (heap_alloc_new w _)
 have hr:((w.alloc (.cells #[.int .i64 f.at_,.string f.name,.string f.type,.slice ap f.params.length cp,.slice ab f.body.length cb] 45)).alloc (.cells #[.int .i64 0,.string ⟨#[]⟩,.string ⟨#[]⟩,.slice none 0 0,.slice none 0 0] 45)).heap[w.heap.size + 1]? = some (.cells #[.int .i64 0,.string ⟨#[]⟩,.string ⟨#[]⟩,.slice none 0 0,.slice none 0 0] 45 (0,0)):=by
  have:=heap_alloc_new (w.alloc (.cells #[.int .i64 f.at_,.string f.name,.string f.type,.slice ap f.params.length cp,.slice ab f.body.length cb] 45)) (.cells #[.int .i64 0,.string ⟨#[]⟩,.string ⟨#[]⟩,.slice none 0 0,.slice none 0 0] 45)
  simpa using this
 go_enter Tryz.func25,Tryz.ntmps25
 go_upto_region 1 with fail
 generalize (w.alloc (.cells #[.int .i64 f.at_,.string f.name,.string f.type,.slice ap f.params.length cp,.slice ab f.body.length cb] 45)).alloc (.cells #[.int .i64 0,.string ⟨#[]⟩,.string ⟨#[]⟩,.slice none 0 0,.slice none 0 0] 45) = w1 at *
 have HV:=Hd (fun w' (h:Below w1.heap.size w1 w')=>cloneV_any ap cp f.params w' ((hsp.below (hb1.trans (h.mono hb1.size)) (Nat.le_refl _)).mono (hb1.trans (h.mono hb1.size)).size) (by have:=hop.1;omega) (nil_lenU (n:=0) hop rfl))
 have HT:=Hd (fun w' (h:Below w1.heap.size w1 w')=>clone_any ab cb f.body w' ((hsb.below (hb1.trans (h.mono hb1.size)) (Nat.le_refl _)).mono (hb1.trans (h.mono hb1.size)).size) (by have:=hob.1;omega) (nil_lenU (n:=0) hob rfl))
 have HX:=Hd (fun w' (h:Below w1.heap.size w1 w')=>five_block ((h.block _ (lt_of_heap hx)).trans hx))
 have HR:=Hd (fun w' (h:Below w1.heap.size w1 w')=>five_block ((h.block _ (lt_of_heap hr)).trans hr))
 have HB1:=Hd hb1
 have HL:=Hd (lt_of_heap hr)
 obtain ⟨⟨y0,y1,y2,y3,y4⟩,_⟩:=HX.out w1 (Below.refl _ _)
 clear hb0 hb1 hx hr hsp hsb hop hob hf
 go_cut [5,8] (fun s5 s8 wx=>Hid (∃ wz,wx = (wz.setCell ⟨w.heap.size,3,none⟩ s5).setCell ⟨w.heap.size,4,none⟩ s8 ∧ Below w1.heap.size w1 wz ∧ VrRow wz w1.heap.size s5 f.params ∧ NdRow wz w1.heap.size s8 f.body))
 case first=>
  go_region_law ((first
   | (go_simp;go_at_call 40;(refine (HV.out _ ?_).mono ?_;first | exact HBt.out | exact (Below.refl _ _).drew);rintro e w6 ⟨⟨v6,rfl,hr6⟩,hb6⟩;obtain ⟨a6,c6,rfl⟩:=own_slice hr6;(first | (have HBv:=Ht HBt hb6) | (have HBv:=Hd ((show Below w1.heap.size w1 w1.drew from (Below.refl _ _).drew).trans (hb6.mono (Nat.le_refl _)))));(first | (have HRt':=Hd (HRt.out.belowed hb6)) | skip);have HRv:=Hd hr6;obtain ⟨⟨x0,x1,x2,x3,x4⟩,xf⟩:=HX.out w6 HBv.out;have xf3:=xf 3;have xf4:=xf 4;clear hr6 hb6)
   | (go_simp;go_at_call 41;(refine (HT.out _ ?_).mono ?_;first | exact HBv.out | exact (Below.refl _ _).drew);rintro e w6 ⟨⟨v6,rfl,hr6⟩,hb6⟩;obtain ⟨a6,c6,rfl⟩:=own_slice hr6;(first | (have HBt:=Ht HBv hb6) | (have HBt:=Hd ((show Below w1.heap.size w1 w1.drew from (Below.refl _ _).drew).trans (hb6.mono (Nat.le_refl _)))));(first | (have HRv':=Hd (HRv.out.belowed hb6)) | skip);have HRt:=Hd hr6;obtain ⟨⟨x0,x1,x2,x3,x4⟩,xf⟩:=HX.out w6 HBt.out;have xf3:=xf 3;have xf4:=xf 4;clear hr6 hb6)))
  all_goals
   go_wp2_with fail
   go_meet
   first
    | exact Hd ⟨_,rfl,HBt.out,own_move HRv'.out (Nat.le_refl _) (fun _ _=>rfl),own_move HRt.out HBv.out.size (fun _ _=>rfl)⟩
    | exact Hd ⟨_,rfl,HBv.out,own_move HRv.out HBt.out.size (fun _ _=>rfl),own_move HRt'.out (Nat.le_refl _) (fun _ _=>rfl)⟩
 case rest=>
  obtain ⟨wz,hwz,hbz,hrv,hrt⟩:=hcut.out
  obtain ⟨av,cv,rfl⟩:=own_slice hrv
  obtain ⟨at',ct,rfl⟩:=own_slice hrt
  subst hwz
  clear hcut y0 y1 y2 y3 y4
  obtain ⟨⟨x0,x1,x2,x3,x4⟩,xf⟩:=HX.out wz hbz
  obtain ⟨⟨d0,d1,d2,d3,d4⟩,fd⟩:=HR.out wz hbz
  have fd0:=fd 0
  have fd1:=fd 1
  have fd2:=fd 2
  have fd3:=fd 3
  have fd4:=fd 4
  have HBz:=Hd hbz
  have HRv:=Hd hrv
  have HRt:=Hd hrt
  clear hbz hrv hrt
  go_wp2_with fail
  refine bodyPost_ret (v:=.agg #[.int .i64 f.at_,.string f.name,.string f.type,.slice av f.params.length cv,.slice at' f.body.length ct]) (by simp [results,Tryz.results25,go_sem,d0,d1,d2,d3,d4]) rfl ?_
  have hne:∀ k,w1.heap.size ≤ k → k ≠ w.heap.size ∧ k ≠ w.heap.size + 1:=fun k hk=>by have:=HL.out;omega
  refine ⟨⟨_,_,rfl,own_move HRv.out HB1.out.size (fun k hk=>?_),own_move HRt.out HB1.out.size (fun k hk=>?_)⟩,?_⟩
  ·rw [Below.heap_setCell _ _ _ _ (hne k hk).2,Below.heap_setCell _ _ _ _ (hne k hk).2,Below.heap_setCell _ _ _ _ (hne k hk).2,Below.heap_setCell _ _ _ _ (hne k hk).2,Below.heap_setCell _ _ _ _ (hne k hk).2,Below.heap_setCell _ _ _ _ (hne k hk).1,Below.heap_setCell _ _ _ _ (hne k hk).1]
  ·rw [Below.heap_setCell _ _ _ _ (hne k hk).2,Below.heap_setCell _ _ _ _ (hne k hk).2,Below.heap_setCell _ _ _ _ (hne k hk).2,Below.heap_setCell _ _ _ _ (hne k hk).2,Below.heap_setCell _ _ _ _ (hne k hk).2,Below.heap_setCell _ _ _ _ (hne k hk).1,Below.heap_setCell _ _ _ _ (hne k hk).1]
  ·exact (Below.setCell (Below.setCell (Below.setCell (Below.setCell (Below.setCell (Below.setCell (Below.setCell (HB1.out.trans (HBz.out.mono HB1.out.size)) (Nat.le_refl _) _) (Nat.le_refl _) _) (Nat.le_succ _) _) (Nat.le_succ _) _) (Nat.le_succ _) _) (Nat.le_succ _) _) (Nat.le_succ _) _)
end Go.Proofs.YtbbaooeioogijaaGreatDoor
