/- Lists of structs, and of members, as rows that a call made i · Trees: what is so of parts, of open ifs, of depths · Where parts begin: the program. -/
import Derived.Test.YtbbaooeioogijaaGreatDoorMg10
import Derived.Test.YtbbaooeioogijaaGreatDoorMg4
import Derived.OwnWalk
import Derived.Laws.OwnMore
import Derived.Deep.RegionHeld3
import Derived.Deep.AppendLies
namespace Go
theorem step_append_own {P:Program} {w:World} {ops:Array Oper} {o:Oper} {a:Act} {K:Act → World → Prop} {Q:Exit → Act → World → Prop} {E:Prop} (hgd:o.guard = none) (s x:Operand) (t:TypeId)
 (ho:o.op = .call { callee:=.builtin .append,args:=#[s,x],argTypes:=#[t,t] })
 (base:Nat) (e:TypeId) (i:TypeInfo) (z:Value) (size bytes:Nat) (ht:P.underlying t = some (.slice e)) (hi:P.info? e = some i) (hz:i.zero = some z)
 (hsize:i.size = size) (hby:i.bytes = bytes) (hzs:z.cells.size = size) (hsz:0 < size)
 (v:Value) (n:Nat) (xs:List Value) (hs:a.eval s = v) (hown:w.ownsRow base e size v n xs)
 (ad:Addr) (m c:Nat) (news:List Value) (hx:a.eval x = .slice (some ad) m c) (hl:news.length = m * size) (hnews:∀ j u,news[j]? = some u → w.cell? (ad.add j) = some u) (h1:∀ u ∈ news,u.oneCell' = true)
 (h63:n + m ≤ maxLen) (hbytes:(n + m) * bytes ≤ 140737488355328) (hbase:base ≤ w.heap.size)
 (h:∀ v' w',w'.ownsRow base e size v' (n + m) (xs ++ news) → w.grownBy w' v.ownBlock → (v' = .slice none 0 0 ↔ v = .slice none 0 0 ∧ m = 0) → K (a.put o.dst v') w') :
 if Region.wanted o (yielded ops a.tmps) = true then Oper.wp P o a w K Q else E:=by
 have hw:Region.wanted o (yielded ops a.tmps) = true:=by simp [Region.wanted,hgd]
 rw [if_pos hw]
 exact wp_append_own w s x t ho base e i z size bytes ht hi hz hsize hby hzs hsz v n xs hs hown ad m c news hx hl hnews h1 h63 hbytes hbase h
end Go
namespace Go.Proofs.YtbbaooeioogijaaGreatDoor
open Go.RowKit
def flat2:List (Value × Value) → List Value
 | []=>[]
 | q :: l=>q.1 :: q.2 :: flat2 l
theorem flat2_length:∀ l,(flat2 l).length = l.length * 2
 | []=>rfl
 | q :: l=>by rw [flat2];simp [flat2_length l];omega
theorem flat2_append:∀ l m,flat2 (l ++ m) = flat2 l ++ flat2 m
 | [],m=>rfl
 | q :: l,m=>by rw [List.cons_append,flat2,flat2,flat2_append l m];rfl
theorem flat2_at:∀ {l:List (Value × Value)} {i:Nat} {q:Value × Value},l[i]? = some q → (flat2 l)[i * 2]? = some q.1 ∧ (flat2 l)[i * 2 + 1]? = some q.2
 | [],_,_,h=>by simp at h
 | p :: l,0,q,h=>by
   simp at h;subst h;exact ⟨rfl,rfl⟩
 | p :: l,i + 1,q,h=>by
   obtain ⟨h1,h2⟩:=flat2_at (l:=l) (i:=i) (q:=q) (by simpa using h)
   rw [flat2]
   have e1:(i + 1) * 2 = i * 2 + 1 + 1:=by omega
   rw [e1]
   exact ⟨by simpa using h1,by simpa using h2⟩
theorem flat2_inv:∀ {l:List (Value × Value)} {j:Nat} {u:Value},(flat2 l)[j]? = some u → ∃ (i:Nat) (q:Value × Value),l[i]? = some q ∧ ((j = i * 2 ∧ u = q.1) ∨ (j = i * 2 + 1 ∧ u = q.2))
 | [],_,_,h=>by simp [flat2] at h
 | p :: l,0,u,h=>⟨0,p,rfl,.inl ⟨rfl,by rw [flat2] at h;simpa using h.symm⟩⟩
 | p :: l,1,u,h=>⟨0,p,rfl,.inr ⟨rfl,by rw [flat2] at h;simpa using h.symm⟩⟩
 | p :: l,j + 2,u,h=>by
   rw [flat2] at h
   obtain ⟨i,q,h1,h2⟩:=flat2_inv (l:=l) (j:=j) (u:=u) (by simpa using h)
   exact ⟨i + 1,q,by simpa using h1,by rcases h2 with ⟨h2,h3⟩ | ⟨h2,h3⟩;exact .inl ⟨by omega,h3⟩;exact .inr ⟨by omega,h3⟩⟩
def pairS (L:List Sr) (mv:List Value):List (Value × Value):=(L.zip mv).map fun q=>(.string q.1.name,q.2)
def pairM (ms:List (ByteArray × ByteArray)):List (Value × Value):=ms.map fun m=>(.string m.1,.string m.2)
theorem pairS_length {L:List Sr} {mv:List Value} (h:mv.length = L.length):(pairS L mv).length = L.length:=by simp [pairS,h]
theorem pairS_at {L:List Sr} {mv:List Value} {i:Nat} {x:Sr} {v:Value} (h1:L[i]? = some x) (h2:mv[i]? = some v):(pairS L mv)[i]? = some (.string x.name,v):=by
 rw [pairS,List.getElem?_map,show (L.zip mv)[i]? = some (x,v) from List.getElem?_zip_eq_some.2 ⟨h1,h2⟩];rfl
theorem pairS_inv {L:List Sr} {mv:List Value} {i:Nat} {q:Value × Value} (h:(pairS L mv)[i]? = some q):∃ x v,L[i]? = some x ∧ mv[i]? = some v ∧ q = (.string x.name,v):=by
 rw [pairS,List.getElem?_map,Option.map_eq_some_iff] at h
 obtain ⟨⟨x,v⟩,h1,rfl⟩:=h
 obtain ⟨h2,h3⟩:=List.getElem?_zip_eq_some.1 h1
 exact ⟨x,v,h2,h3,rfl⟩
theorem pairS_snoc {L:List Sr} {mv:List Value} (h:mv.length = L.length) (x:Sr) (v:Value):pairS (L ++ [x]) (mv ++ [v]) = pairS L mv ++ [(.string x.name,v)]:=by
 rw [pairS,pairS,List.zip_append h.symm,List.map_append];rfl
theorem add2 (b off j:Nat):(⟨b,off,none⟩:Addr).add j = ⟨b,off + j,none⟩:=by unfold Addr.add;split <;> simp_all
theorem srs_news {B:Nat} {w:World} {ad:Addr} {L:List Sr} {mv:List Value} (h:IsSrs B w (some ad) L mv):∀ (j:Nat) u,(flat2 (pairS L mv))[j]? = some u → w.cell? (ad.add j) = some u:=fun j u hu=>by
 obtain ⟨i,q,hq,hj⟩:=flat2_inv hu
 obtain ⟨x,v,hx,hv,rfl⟩:=pairS_inv hq
 obtain ⟨b,off,ha,_,hr⟩:=h.at_ (fun e=>by rw [e] at hx;simp at hx)
 obtain rfl:=Option.some.inj ha
 obtain ⟨h1,h2,_⟩:=hr i x v hx hv
 rcases hj with ⟨rfl,rfl⟩ | ⟨rfl,rfl⟩
 ·rw [add2];exact h1
 ·rw [add2,← Nat.add_assoc];exact h2
theorem srs_one {B:Nat} {w:World} {a:Option Addr} {L:List Sr} {mv:List Value} (h:IsSrs B w a L mv):∀ u ∈ flat2 (pairS L mv),u.oneCell' = true:=fun u hu=>by
 obtain ⟨j,hj,rfl⟩:=List.getElem_of_mem hu
 obtain ⟨i,q,hq,hj'⟩:=flat2_inv (List.getElem?_eq_getElem hj)
 obtain ⟨x,v,hx,hv,rfl⟩:=pairS_inv hq
 obtain ⟨b,off,ha,_,hr⟩:=h.at_ (fun e=>by rw [e] at hx;simp at hx)
 obtain ⟨_,_,am,cm,rfl,_⟩:=hr i x v hx hv
 rcases hj' with ⟨_,h⟩ | ⟨_,h⟩ <;> rw [h] <;> rfl
theorem own_srs {w:World} {base n:Nat} {v:Value} {L:List Sr} {mv:List Value} (h:w.ownsRow base 61 2 v n (flat2 (pairS L mv))) (hn:n = L.length) (hl:mv.length = L.length) (hm:∀ (i:Nat) x v,L[i]? = some x → mv[i]? = some v → IsMems w.heap.size w v x.mems) (hN:∀ x ∈ L,x.name.size ≤ maxLen) :
 ∃ a cap,v = .slice a L.length cap ∧ IsSrs w.heap.size w a L mv:=by
 subst hn
 rcases h.2 with ⟨rfl,h0⟩ | ⟨g,cap,cur,rfl,_,hg,_⟩
 ·refine ⟨none,0,by rw [h0],hl,fun hne=>?_,hN⟩
  have:L = []:=List.eq_nil_of_length_eq_zero h0
  exact absurd this hne
 ·refine ⟨_,cap,rfl,hl,fun _=>⟨g,0,rfl,lt_of_heap hg,fun i x v hx hv=>?_⟩,hN⟩
  obtain ⟨h1,h2⟩:=flat2_at (pairS_at hx hv)
  have c1:=h.cells (g:=g) rfl _ _ h1
  have c2:=h.cells (g:=g) rfl _ _ h2
  rw [add2,Nat.zero_add] at c1 c2
  refine ⟨by rw [Nat.zero_add];exact c1,by rw [Nat.zero_add];exact c2,hm i x v hx hv⟩
theorem heap_new1 (w:World) (o o2:Obj):((w.alloc o).alloc o2).heap[w.heap.size]? = some o:=by
 rw [((Below.refl (w.alloc o).heap.size (w.alloc o)).alloc (Nat.le_refl _) o2).block _ (by simp)];exact heap_alloc_new w o
theorem heap_new2 (w:World) (o o2:Obj):((w.alloc o).alloc o2).heap[w.heap.size + 1]? = some o2:=by
 have:=heap_alloc_new (w.alloc o) o2
 simpa using this
theorem own_nil {w:World} {g base k:Nat} {T:TypeId} (h:w.heap[g]? = some (.cells #[] T (0,0))) (hb:base ≤ g):w.ownsRow base T k (.slice (some ⟨g,0,none⟩) 0 0) 0 []:=
 ⟨by simp,.inr ⟨g,0,#[],rfl,hb,h,Nat.le_refl _,by decide,by simp,by simp⟩⟩
theorem news2 {w:World} {g:Nat} {c0 c1:Value} {T:TypeId} (h:w.heap[g]? = some (.cells #[c0,c1] T (0,0))):∀ (j:Nat) u,[c0,c1][j]? = some u → w.cell? ((⟨g,0,none⟩:Addr).add j) = some u:=fun j u hu=>by
 obtain ⟨⟨h0,h1⟩,_⟩:=two_block h
 match j,hu with
 | 0,hu=>obtain rfl:=Option.some.inj hu;rw [add2];exact h0
 | 1,hu=>obtain rfl:=Option.some.inj hu;rw [add2];exact h1
theorem blw1 (w:World) (o:Obj):Below w.heap.size w (w.alloc o).drew:=((Below.refl _ _).alloc (Nat.le_refl _) _).drew
theorem blw2 (w:World) (o o2:Obj):Below w.heap.size w ((w.alloc o).alloc o2).drew:=(((Below.refl _ _).alloc (Nat.le_refl _) _).alloc (by simp) _).drew
theorem infoSt:(Tryz.prog.info? 61).map (fun i=>(i.zero,i.size,i.bytes)) = some (some (.agg #[.string ⟨#[]⟩,.slice none 0 0]),2,40):=by kernel_rfl
end Go.Proofs.YtbbaooeioogijaaGreatDoor
namespace Go.Proofs.YtbbaooeioogijaaGreatDoor
theorem partsE_length (fr:List Nat):∀ (n e:Nat),(partsE fr n e).length = n
 | 0,_=>rfl
 | n + 1,e=>by rw [partsE,List.length_append,partsE_length fr n];rfl
theorem partsE_lt {fr:List Nat}:∀ {n e:Nat},Back fr n e → ∀ p ∈ partsE fr n e,p < e
 | 0,_,_,p,hp=>by rw [partsE] at hp;cases hp
 | n + 1,e,⟨h1,h2,h3⟩,p,hp=>by
   rw [partsE] at hp
   rcases List.mem_append.1 hp with hp | hp
   ·have:=partsE_lt h3 p hp;omega
   ·obtain rfl:=List.mem_singleton.1 hp;omega
theorem partsAt_is {t:List Nd} {fr:List Nat} {k:Nat} {x:Nd} (hx:t[k]? = some x):partsAt t fr k = partsE fr x.n.toNat k:=by unfold partsAt;rw [hx];rfl
theorem kindAt_is {t:List Nd} {k:Nat} {x:Nd} (hx:t[k]? = some x):kindAt t k = x.kind:=by unfold kindAt;rw [hx];rfl
theorem Formed.parts_lt {t:List Nd} {fr:List Nat} (h:Formed t fr) {k p:Nat} (hp:p ∈ partsAt t fr k):p < k:=by
 unfold partsAt at hp
 cases hx:t[k]? with
 | none=>rw [hx] at hp;simp [partsE] at hp
 | some x=>
   rw [hx] at hp
   exact partsE_lt (h.node k x hx).2.1 p hp
theorem well_parts {x:Nd} (h:wellN x = true):(arityN x.kind).1 ≤ x.n ∧ x.n ≤ (arityN x.kind).2 ∧ 0 ≤ (arityN x.kind).1:=by
 unfold wellN sizeOk at h
 simp only [Bool.and_eq_true,decide_eq_true_eq] at h
 exact ⟨h.1.2.1,h.1.2.2.1,h.1.1⟩
theorem openF_more {t:List Nd} {fr:List Nat} (h:Formed t fr) (hw:∀ (k:Nat) x,t[k]? = some x → wellN x = true):∀ (m k:Nat),k < t.length → k < m → openF t fr m k = openF t fr (k + 1) k
 | 0,k,_,hk=>by omega
 | m + 1,k,hl,hk=>by
   have hx:=List.getElem?_eq_getElem hl
   have hwx:=well_parts (hw k _ hx)
   rw [openF,openF]
   have hpl:(partsAt t fr k).length = t[k].n.toNat:=by rw [partsAt_is hx,partsE_length]
   have hkd:=kindAt_is hx
   have key:∀ i,i < (partsAt t fr k).length → openF t fr m ((partsAt t fr k).getD i 0) = openF t fr k ((partsAt t fr k).getD i 0):=fun i hi=>by
    have hm:(partsAt t fr k).getD i 0 ∈ partsAt t fr k:=by
     rw [List.getD_eq_getElem?_getD,List.getElem?_eq_getElem hi]
     exact List.getElem_mem hi
    have hlt:=h.parts_lt hm
    rw [openF_more h hw m _ (by omega) (by omega),openF_more h hw k _ (by omega) hlt]
   by_cases h23:kindAt t k = 23
   ·rw [if_pos h23,if_pos h23]
    by_cases h2:(partsAt t fr k).length = 2
    ·simp [h2]
    ·have:2 < (partsAt t fr k).length:=by
      rw [hkd] at h23
      rw [h23] at hwx
      have:arityN 23 = (2,3):=by decide
      rw [this] at hwx
      rw [hpl] at h2 ⊢
      simp only at hwx
      omega
     rw [key 2 this]
   ·rw [if_neg h23,if_neg h23]
    split
    ·rename_i hk5
     have:0 < (partsAt t fr k).length:=by
      have ha:1 ≤ (arityN t[k].kind).1:=by
       rw [hkd] at hk5
       rcases hk5 with e | e | e | e | e <;> rw [e] <;> decide
      rw [hpl]
      omega
     rw [key _ (by omega)]
    ·rfl
theorem open_if {t:List Nd} {fr:List Nat} (h:Formed t fr) (hw:∀ (k:Nat) x,t[k]? = some x → wellN x = true) {k:Nat} (hl:k < t.length) (h23:kindAt t k = 23):openN t fr k = (decide ((partsAt t fr k).length = 2) || (decide (2 < (partsAt t fr k).length) && openN t fr ((partsAt t fr k).getD 2 0))):=by
 unfold openN
 rw [openF]
 rw [if_pos h23]
 by_cases h2:(partsAt t fr k).length = 2
 ·simp [h2]
 ·have hx:=List.getElem?_eq_getElem hl
  have hwx:=well_parts (hw k _ hx)
  have hpl:(partsAt t fr k).length = t[k].n.toNat:=by rw [partsAt_is hx,partsE_length]
  have h3:2 < (partsAt t fr k).length:=by
   rw [kindAt_is hx] at h23
   rw [h23,show arityN 23 = (2,3) by decide] at hwx
   rw [hpl] at h2 ⊢
   simp only at hwx
   omega
  have hm:(partsAt t fr k).getD 2 0 ∈ partsAt t fr k:=by
   rw [List.getD_eq_getElem?_getD,List.getElem?_eq_getElem h3]
   exact List.getElem_mem h3
  have hlt:=h.parts_lt hm
  rw [openF_more h hw k _ (by omega) hlt]
  simp [h2,h3]
theorem open_last {t:List Nd} {fr:List Nat} (h:Formed t fr) (hw:∀ (k:Nat) x,t[k]? = some x → wellN x = true) {k:Nat} (hl:k < t.length) (h5:kindAt t k = 24 ∨ kindAt t k = 26 ∨ kindAt t k = 27 ∨ kindAt t k = 28 ∨ kindAt t k = 29) :
 0 < (partsAt t fr k).length ∧ openN t fr k = openN t fr ((partsAt t fr k).getD ((partsAt t fr k).length - 1) 0):=by
 have hx:=List.getElem?_eq_getElem hl
 have hwx:=well_parts (hw k _ hx)
 have hpl:(partsAt t fr k).length = t[k].n.toNat:=by rw [partsAt_is hx,partsE_length]
 have h0:0 < (partsAt t fr k).length:=by
  have ha:1 ≤ (arityN t[k].kind).1:=by
   have:=h5
   rw [kindAt_is hx] at this
   rcases this with e | e | e | e | e <;> rw [e] <;> decide
  rw [hpl];omega
 have hm:(partsAt t fr k).getD ((partsAt t fr k).length - 1) 0 ∈ partsAt t fr k:=by
  rw [List.getD_eq_getElem?_getD,List.getElem?_eq_getElem (by omega)]
  exact List.getElem_mem _
 refine ⟨h0,?_⟩
 unfold openN
 rw [openF]
 rw [if_neg (by omega),if_pos h5,openF_more h hw k _ (by have:=h.parts_lt hm;omega) (h.parts_lt hm)]
theorem open_no {t:List Nd} {fr:List Nat} {k:Nat} (h:kindAt t k ≠ 23 ∧ kindAt t k ≠ 24 ∧ kindAt t k ≠ 26 ∧ kindAt t k ≠ 27 ∧ kindAt t k ≠ 28 ∧ kindAt t k ≠ 29):openN t fr k = false:=by
 unfold openN
 rw [openF]
 rw [if_neg (by omega),if_neg (by omega)]
end Go.Proofs.YtbbaooeioogijaaGreatDoor
namespace Go.Proofs.YtbbaooeioogijaaGreatDoor
open Go.RowKit
theorem infoInt:(Tryz.prog.info? 3).map (fun i=>(i.zero,i.size,i.bytes)) = some (some (.int .i64 0),1,8):=by kernel_rfl
def natV (n:Nat):Value:=.int .i64 (n:Int)
def NatRow (w:World) (base:Nat) (v:Value) (L:List Nat):Prop:=w.ownsRow base 3 1 v L.length (L.map natV)
theorem rev_take (st:List Nat) (m:Nat) (_h:m ≤ st.length):st.reverse.take (st.length - m) = (st.drop m).reverse:=by
 rw [List.reverse_drop]
theorem natRow_sl {w:World} {base:Nat} {v:Value} {L:List Nat} (h:NatRow w base v L):∃ a cap,v = .slice a L.length cap ∧ (L ≠ [] → ∃ g,a = some ⟨g,0,none⟩ ∧ base ≤ g ∧ g < w.heap.size ∧ ∀ (i:Nat) x,L[i]? = some x → w.cell? ⟨g,i,none⟩ = some (.int .i64 (x:Int))):=by
 rcases h.2 with ⟨rfl,h0⟩ | ⟨g,cap,cur,rfl,hb,hg,_⟩
 ·have:L = []:=List.eq_nil_of_length_eq_zero h0
  subst this
  exact ⟨none,0,rfl,fun h=>absurd rfl h⟩
 ·refine ⟨_,cap,rfl,fun _=>⟨g,rfl,hb,lt_of_heap hg,fun i x hx=>?_⟩⟩
  have:=h.cells (g:=g) rfl i (natV x) (by rw [List.getElem?_map,hx];rfl)
  rw [addN,Nat.zero_add] at this
  exact this
theorem own_nil9 {w:World} {base:Nat} {T:TypeId} (hb:base ≤ w.heap.size):(w.alloc (.cells #[] T)).ownsRow base T 1 (.slice (some ⟨w.heap.size,0,none⟩) 0 0) 0 []:=World.ownsRow_lit w #[] 0 hb (by decide) rfl
structure BegInv (w:World) (t:List Nd) (wy:World) (g cap i:Nat) (pre st:List Nat):Prop where
 rest:beginsF t 0 [] = (beginsF (t.drop i) i st).map fun r=>(pre ++ r.1,r.2)
 len:pre.length = i
 row:∃ ys,wy.ownsRow w.heap.size 3 1 (.slice (some ⟨w.heap.size,0,none⟩) t.length t.length) t.length ys ∧ ∀ (j:Nat) x,pre[j]? = some x → ys[j]? = some (natV x)
 stk:wy.ownsRow w.heap.size 3 1 (.slice (some ⟨g,0,none⟩) st.length cap) st.length (st.reverse.map natV)
 apart:g ≠ w.heap.size
 stl:st.length ≤ i
 below:Below w.heap.size w wy
theorem BegInv.done {w wy:World} {t:List Nd} {g cap:Nat} {pre st:List Nat} (h:BegInv w t wy g cap t.length pre st):NatRow wy w.heap.size (.slice (some ⟨w.heap.size,0,none⟩) t.length t.length) pre:=by
 obtain ⟨ys,ho,hp⟩:=h.row
 have hl:=ho.1
 rw [Nat.mul_one] at hl
 have:ys = pre.map natV:=by
  apply List.ext_getElem?
  intro j
  rw [List.getElem?_map]
  rcases hx:pre[j]? with _ | x
  ·rw [List.getElem?_eq_none_iff] at hx
   have:=h.len
   rw [List.getElem?_eq_none (by omega)];rfl
  ·rw [hp j x hx];rfl
 subst this
 unfold NatRow
 rw [h.len]
 exact ho
structure BegMid (w:World) (t:List Nd) (wy:World) (g cap i a:Nat) (pre st:List Nat):Prop where
 len:pre.length = i
 row:∃ ys,wy.ownsRow w.heap.size 3 1 (.slice (some ⟨w.heap.size,0,none⟩) t.length t.length) t.length ys ∧ (∀ (j:Nat) x,pre[j]? = some x → ys[j]? = some (natV x)) ∧ ys[i]? = some (natV a)
 stk:wy.ownsRow w.heap.size 3 1 (.slice (some ⟨g,0,none⟩) st.length cap) st.length (st.reverse.map natV)
 apart:g ≠ w.heap.size
 below:Below w.heap.size w wy
theorem row_set9 {w:World} {B m:Nat} {e:TypeId} {size:Nat} {v:Value} {xs:List Value} (h:w.ownsRow B e size v m xs) (a:Addr) (u:Value) (hne:v.ownBlock ≠ some a.block):(w.setCell a u).ownsRow B e size v m xs:=
 h.kept (row:=some a.block) ⟨rfl,rfl,rfl,by simp,fun k _ hk=>heap_setCell_other w a k u (fun e=>hk (by simp [e]))⟩ (.inr hne)
theorem BegInv.cell {w wy:World} {t:List Nd} {g cap i:Nat} {pre st:List Nat} (h:BegInv w t wy g cap i pre st) (hi:i < t.length) {w2:World} (hb:Below wy.heap.size wy w2):(∃ u,w2.cell? ⟨w.heap.size,i,none⟩ = some u) ∧ w2.frozen? ⟨w.heap.size,i,none⟩ = false:=by
 obtain ⟨ys,ho,_⟩:=h.row
 have ho2:=ho.belowed hb
 refine ⟨?_,ho2.frozenAt i⟩
 have hl:=ho2.1
 rw [Nat.mul_one] at hl
 rw [ho2.cellAt i (by omega)]
 exact ⟨_,List.getElem?_eq_getElem (by omega)⟩
theorem BegInv.store {w wy:World} {t:List Nd} {g cap i:Nat} {pre st:List Nat} (h:BegInv w t wy g cap i pre st) (hi:i < t.length) {w2:World} (hb:Below wy.heap.size wy w2):BegMid w t (w2.setCell ⟨w.heap.size,i,none⟩ (natV i)) g cap i i pre st:=by
 obtain ⟨ys,ho,hp⟩:=h.row
 have ho2:=ho.belowed hb
 have hl:=ho2.1
 rw [Nat.mul_one] at hl
 refine ⟨h.len,⟨_,(ho2.stored i (natV i)).1,fun j x hx=>?_,?_⟩,row_set9 (h.stk.belowed hb) _ _ (by simp [Value.ownBlock];exact h.apart),h.apart,(h.below.trans (hb.mono h.below.size)).setCell (Nat.le_refl _) _⟩
 ·have:=(List.getElem?_eq_some_iff.1 hx).1
  have:=h.len
  rw [List.getElem?_set_ne (by omega)]
  exact hp j x hx
 ·rw [List.getElem?_set_self (by omega)]
theorem BegMid.cell {w wy:World} {t:List Nd} {g cap i a:Nat} {pre st:List Nat} (h:BegMid w t wy g cap i a pre st):wy.cell? ⟨w.heap.size,i,none⟩ = some (natV a) ∧ wy.frozen? ⟨w.heap.size,i,none⟩ = false:=by
 obtain ⟨ys,ho,_,hp⟩:=h.row
 have hl:=ho.1
 rw [Nat.mul_one] at hl
 have:=(List.getElem?_eq_some_iff.1 hp).1
 exact ⟨by rw [ho.cellAt i (by omega)];exact hp,ho.frozenAt i⟩
theorem BegMid.top {w wy:World} {t:List Nd} {g cap i a:Nat} {pre st:List Nat} (h:BegMid w t wy g cap i a pre st) {q m:Nat} (hq:st.length = q + m) (hm:0 < m):wy.cell? ⟨g,q,none⟩ = some (.int .i64 ((st.getD (m - 1) 0:Nat):Int)):=by
 rw [h.stk.cellAt q (by omega),List.getElem?_map,List.getElem?_reverse (by omega),show st.length - 1 - q = m - 1 by omega,List.getElem?_eq_getElem (by omega)]
 simp [natV,List.getD_eq_getElem?_getD,List.getElem?_eq_getElem (show m - 1 < st.length by omega)]
theorem BegMid.store {w wy:World} {t:List Nd} {g cap i a:Nat} {pre st:List Nat} (h:BegMid w t wy g cap i a pre st) (c:Nat):BegMid w t (wy.setCell ⟨w.heap.size,i,none⟩ (natV c)) g cap i c pre st:=by
 obtain ⟨ys,ho,hp,hi⟩:=h.row
 have:=(List.getElem?_eq_some_iff.1 hi).1
 refine ⟨h.len,⟨_,(ho.stored i (natV c)).1,fun j x hx=>?_,?_⟩,row_set9 h.stk _ _ (by simp [Value.ownBlock];exact h.apart),h.apart,h.below.setCell (Nat.le_refl _) _⟩
 ·have:=(List.getElem?_eq_some_iff.1 hx).1
  have:=h.len
  rw [List.getElem?_set_ne (by omega)]
  exact hp j x hx
 ·rw [List.getElem?_set_self (by omega)]
theorem BegMid.node {w wy:World} {t:List Nd} {g cap i a:Nat} {pre st:List Nat} (h:BegMid w t wy g cap i a pre st) {q m:Nat} (hq:st.length = q + m):wy.ownsRow w.heap.size 3 1 (.slice (some ⟨g,0,none⟩) q cap) q ((st.drop m).reverse.map natV):=by
 have:=own_take h.stk (m:=q) (by omega)
 rw [Nat.mul_one,← List.map_take,show q = st.length - m by omega,rev_take st m (by omega)] at this
 rw [show q = st.length - m by omega]
 exact this
theorem BegMid.next {w wy w4 w5:World} {t:List Nd} {g cap i a g5 cp5:Nat} {pre st:List Nat} (h:BegMid w t wy g cap i a pre st) {q m:Nat} (hq:st.length = q + m) (hst:st.length ≤ i) (hb:Below wy.heap.size wy w4)
 (hown:w5.ownsRow w.heap.size 3 1 (.slice (some ⟨g5,0,none⟩) (q + 1) cp5) (q + 1) ((st.drop m).reverse.map natV ++ [.int .i64 (a:Int)])) (hgrow:w4.grownBy w5 (some g)) (hat:some g = some g5 ∨ g5 = w4.heap.size)
 (hrest:beginsF t 0 [] = (beginsF (t.drop (i + 1)) (i + 1) (a :: st.drop m)).map fun r=>(pre ++ [a] ++ r.1,r.2)):BegInv w t w5 g5 cp5 (i + 1) (pre ++ [a]) (a :: st.drop m):=by
 obtain ⟨ys,ho,hp,hi⟩:=h.row
 have hil:=(List.getElem?_eq_some_iff.1 hi).1
 have hle:w.heap.size < wy.heap.size:=by
  rcases ho.2 with ⟨h,_⟩ | ⟨q,_,_,h,_,hq,_⟩
  ·simp at h
  ·simp only [Value.slice.injEq,Option.some.injEq,Addr.mk.injEq,and_true] at h
   rw [h.1];exact lt_of_heap hq
 have hg:w.heap.size ≤ g:=by
  rcases h.stk.2 with ⟨h,_⟩ | ⟨q,_,_,h,hb,hq,_⟩
  ·simp at h
  ·simp only [Value.slice.injEq,Option.some.injEq,Addr.mk.injEq,and_true] at h
   rw [h.1];exact hb
 have e:(a :: st.drop m).length = q + 1:=by simp;omega
 refine ⟨hrest,by rw [List.length_append,h.len];rfl,⟨ys,(ho.belowed hb).kept hgrow (.inr (by simp [Value.ownBlock];exact fun h'=>h.apart h'.symm)),fun j x hx=>?_⟩,?_,?_,by rw [e];omega,(h.below.trans (hb.mono h.below.size)).grown hgrow (Nat.le_trans h.below.size hb.size) (fun k hk=>by simp only [Option.some.injEq] at hk;omega)⟩
 ·rcases Nat.lt_or_ge j pre.length with hj | hj
  ·rw [List.getElem?_append_left hj] at hx
   exact hp j x hx
  ·have:=(List.getElem?_eq_some_iff.1 hx).1
   rw [List.length_append,h.len] at this
   simp only [List.length_cons,List.length_nil] at this
   obtain rfl:j = i:=by have:=h.len;omega
   rw [List.getElem?_append_right hj,h.len,Nat.sub_self] at hx
   simp at hx
   subst hx
   exact hi
 ·rw [e,List.reverse_cons,List.map_append]
  exact hown
 ·rcases hat with h' | h'
  ·have:=Option.some.inj h'
   rw [← this];exact h.apart
  ·have:=hb.size
   omega
theorem BegMid.cap_le {w wy:World} {t:List Nd} {g cap i a:Nat} {pre st:List Nat} (h:BegMid w t wy g cap i a pre st):st.length ≤ cap ∧ cap ≤ maxLen ∧ w.heap.size ≤ wy.heap.size:=by
 rcases h.stk.2 with ⟨h,_⟩ | ⟨q,_,_,h',hb,hq,h1,h2,_⟩
 ·simp at h
 ·simp only [Value.slice.injEq,Option.some.injEq,Addr.mk.injEq,and_true,true_and] at h'
  exact ⟨by rw [h'.2];exact h1,by rw [h'.2];exact h2,h.below.size⟩
theorem BegMid.lt {w wy:World} {t:List Nd} {g cap i a:Nat} {pre st:List Nat} (h:BegMid w t wy g cap i a pre st):w.heap.size < wy.heap.size:=by
 obtain ⟨ys,ho,_⟩:=h.row
 rcases ho.2 with ⟨h,_⟩ | ⟨q,_,_,h,_,hq,_⟩
 ·simp at h
 ·simp only [Value.slice.injEq,Option.some.injEq,Addr.mk.injEq,and_true] at h
  rw [h.1];exact lt_of_heap hq
theorem BegInv.lastc {w wy:World} {t:List Nd} {g cap i a:Nat} {pre st:List Nat} (h:BegInv w t wy g cap (i + 1) (pre ++ [a]) st):wy.cell? ⟨w.heap.size,i,none⟩ = some (.int .i64 (a:Int)):=by
 obtain ⟨ys,ho,hp⟩:=h.row
 have hl:=h.len
 rw [List.length_append] at hl
 simp only [List.length_cons,List.length_nil] at hl
 have hx:=hp i a (by rw [List.getElem?_append_right (by omega),show i - pre.length = 0 by omega];rfl)
 have:=(List.getElem?_eq_some_iff.1 hx).1
 have:=ho.1
 rw [ho.cellAt i (by omega)]
 exact hx
def BegEnd (t:List Nd) (w:World) (e:Ending) (w':World):Prop:=(∃ v ok,e = .returned (.tuple #[v,.bool ok]) ∧ (ok = (beginsN t).isSome) ∧ (ok = true → ∃ fr,beginsN t = some fr ∧ NatRow w' w.heap.size v fr)) ∧ Below w.heap.size w w'
theorem begEnd_no {t:List Nd} {w w':World} {v:Value} (h:beginsN t = none) (hb:Below w.heap.size w w'):BegEnd t w (.returned (.tuple #[v,.bool false])) w':=⟨⟨v,false,rfl,by rw [h];rfl,fun h=>by cases h⟩,hb⟩
theorem begEnd_yes {t:List Nd} {w w':World} {v:Value} {fr:List Nat} (h:beginsN t = some fr) (hr:NatRow w' w.heap.size v fr) (hb:Below w.heap.size w w'):BegEnd t w (.returned (.tuple #[v,.bool true])) w':=⟨⟨v,true,rfl,by rw [h];rfl,fun _=>⟨fr,h,hr⟩⟩,hb⟩
theorem begins_stop {t:List Nd} {i:Nat} {pre st:List Nat} {x:Nd} (h:beginsF t 0 [] = (beginsF (t.drop i) i st).map fun r=>(pre ++ r.1,r.2)) (hx:t.drop i = x :: t.drop (i + 1)) (hn:x.n < 0 ∨ (st.length:Int) < x.n):beginsN t = none:=by
 unfold beginsN
 rw [h,hx,beginsF,if_pos hn];rfl
theorem begins_step {t:List Nd} {i:Nat} {pre st:List Nat} {x:Nd} (h:beginsF t 0 [] = (beginsF (t.drop i) i st).map fun r=>(pre ++ r.1,r.2)) (hx:t.drop i = x :: t.drop (i + 1)) (hn:0 ≤ x.n) (hl:x.n ≤ (st.length:Int)) {a:Nat} (ha:(if 0 < x.n then st.getD (x.n.toNat - 1) 0 else i) = a) :
 beginsF t 0 [] = (beginsF (t.drop (i + 1)) (i + 1) (a :: st.drop x.n.toNat)).map fun r=>(pre ++ [a] ++ r.1,r.2):=by
 rw [h,hx,beginsF,if_neg (by omega)]
 simp only [ha,Option.map_map]
 congr 1
 funext r
 simp
theorem begins_done {t:List Nd} {pre st:List Nat} (h:beginsF t 0 [] = (beginsF (t.drop t.length) t.length st).map fun r=>(pre ++ r.1,r.2)):(st.length = 1 → beginsN t = some pre) ∧ (st.length ≠ 1 → beginsN t = none):=by
 rw [List.drop_length,beginsF] at h
 simp only [Option.map_some,List.append_nil] at h
 unfold beginsN
 rw [h]
 constructor
 ·intro h1
  obtain ⟨s,rfl⟩:=List.length_eq_one_iff.1 h1
  rfl
 ·intro h1
  match st,h1 with
  | [],_=>rfl
  | [s],h1=>simp at h1
  | _ :: _ :: _,_=>rfl
set_option maxRecDepth 100000 in
set_option maxHeartbeats 8000000 in
theorem begins_ok (a:Option Addr) (cap:Nat) (t:List Nd) (w:World) (hI:IsNds w.heap.size w a t) (hl:t.length ≤ 4096) (hOk:∀ x ∈ t,NdOk x) :
 Calls Tryz.prog 68 #[.slice a t.length cap] w (BegEnd t w):=by
 have HI:=Hd hI
 have HOk:=Hd hOk
 have hli:(t.length:Int) ≤ 4096:=by omega
 obtain ⟨i0,hi,hz0,hz1,hz2⟩:=info_parts infoInt
 have HI0:=Hd (And.intro hi (And.intro hz0 (And.intro hz1 hz2)))
 have HNum:=Hd (show i0.bytes * t.length ≤ 281474976710656 ∧ t.length ≤ maxLen from ⟨by rw [hz2];omega,by unfold maxLen;omega⟩)
 clear hi hz0 hz1 hz2 hI hOk
 go_enter Tryz.func68,Tryz.ntmps68
 go_wp2_with (at_make;refine wpList_make_full _ rfl _ _ _ rfl w.heap.size 3 i0 (.int .i64 0) 1 Tryz.underlying124 HI0.out.1 HI0.out.2.1 HI0.out.2.2.1 .i64 .i64 (t.length:Int) (t.length:Int) t.length rfl rfl rfl rfl HNum.out.1 HNum.out.2 (Nat.le_refl _) ?_)
 intro w1 hown1 hgrow1
 have HB1:=Hd (show Below w.heap.size w w1 from (Below.refl _ _).grown hgrow1 (Nat.le_refl _) (fun k hk=>by simp at hk))
 have HO1:=Hd hown1
 have HS1:=Hd (show w.heap.size < w1.heap.size from (by rcases hown1.2 with ⟨h,_⟩ | ⟨q,_,_,h,_,hq,_⟩;simp at h;simp only [Value.slice.injEq,Option.some.injEq,Addr.mk.injEq,and_true] at h;rw [h.1];exact lt_of_heap hq))
 clear hown1 hgrow1
 have HB0:=Hd (show BegInv w t (w1.alloc (.cells #[] 3)) w1.heap.size 0 0 [] [] from ⟨by simp,rfl,⟨_,HO1.out.belowed ((Below.refl _ _).alloc (Nat.le_refl _) _),fun j x h=>by simp at h⟩,own_nil9 HB1.out.size,by have:=HS1.out;omega,Nat.le_refl _,HB1.out.alloc HB1.out.size _⟩)
 go_wp2_with fail
 go_loopg [5,15] t.length (fun m v5 v15 wy=>∃ (i g' c':Nat) (pre st:List Nat),i ≤ t.length ∧ i + m = t.length ∧ v15 = .int .i64 (i:Int) ∧ v5 = .slice (some ⟨g',0,none⟩) st.length c' ∧ Hid (BegInv w t wy g' c' i pre st))
 case atStart=>exact ⟨0,_,_,[],[],by omega,by omega,rfl,rfl,HB0⟩
 case round=>
  obtain ⟨i,g',c',pre,st,hi,him,rfl,rfl,HG⟩:=hrel
  have hstl:(st.length:Int) ≤ 4096:=by have:=HG.out.stl;omega
  by_cases hlt:i < t.length
  ·obtain ⟨b,off,ha,hbl,x0,x1,x2,x3,x4,x5⟩:=nds_at HI.out hlt
   subst ha
   rw [← HG.out.below.cell hbl] at x0 x1 x2 x3 x4 x5
   have HDr:=Hd (show t.drop i = t[i] :: t.drop (i + 1) from List.drop_eq_getElem_cons hlt)
   obtain ⟨_,⟨hn0,hn1⟩,_⟩:=HOk.out _ (List.getElem_mem hlt)
   generalize t[i]'hlt = x at *
   obtain ⟨kk,n,p,ii,s,ty⟩:=x
   simp only at x0 x1 x2 x3 x4 x5 hn0 hn1
   go_upto_region 5 with fail
   have hx2:(wr.alloc (ndObj ⟨kk,n,p,ii,s,ty⟩)).heap[wr.heap.size]? = some (.cells #[.int .i64 kk,.int .i64 n,.int .i64 p,.int .i64 ii,.string s,.string ty] 47 (0,0)):=heap_alloc_new _ _
   have hb2:Below wr.heap.size wr (wr.alloc (ndObj ⟨kk,n,p,ii,s,ty⟩)):=(Below.refl _ _).alloc (Nat.le_refl _) _
   simp only [ndObj] at hx2 hb2
   generalize wr.alloc (.cells #[.int .i64 kk,.int .i64 n,.int .i64 p,.int .i64 ii,.string s,.string ty] 47) = w2 at *
   obtain ⟨⟨_,d1,_⟩,_⟩:=six_block hx2
   have HX2:=Hd hx2
   have HB2:=Hd hb2
   clear x0 x1 x2 x3 x4 x5 hx2 hb2
   have HZw:=Hd (show w.heap.size ≤ wr.heap.size ∧ w.heap.size ≠ wr.heap.size from ⟨HG.out.below.size,by obtain ⟨_,ho,_⟩:=HG.out.row;rcases ho.2 with ⟨h,_⟩ | ⟨q,_,_,h,_,hq,_⟩;simp at h;simp only [Value.slice.injEq,Option.some.injEq,Addr.mk.injEq,and_true] at h;have:=lt_of_heap hq;omega⟩)
   by_cases hneg:n < 0
   ·have t1:decide (n < 0) = true:=by simpa using hneg
    go_wp2_with fail
    go_ret2
    exact begEnd_no (begins_stop HG.out.rest HDr.out (.inl hneg)) (HG.out.below.trans (HB2.out.mono HG.out.below.size))
   ·have t1:decide (n < 0) = false:=by simpa using hneg
    obtain ⟨m,rfl⟩:∃ m:Nat,n = (m:Int):=⟨n.toNat,by omega⟩
    by_cases hm:m ≤ st.length
    ·obtain ⟨q,hq⟩:∃ q,st.length = q + m:=⟨st.length - m,by omega⟩
     have t2:decide ((q:Int) < 0) = false:=by simp
     go_upto_region 6 with fail
     go_upto_region 8 with fail
     obtain ⟨⟨uc,hcc⟩,hcf⟩:=HG.out.cell hlt HB2.out
     go_upto_region 9 with fail
     have HM3:=Hd (HG.out.store hlt HB2.out)
     simp only [natV] at HM3
     have hx3:(w2.setCell ⟨w.heap.size,i,none⟩ (.int .i64 (i:Int))).heap[wr.heap.size]? = some (.cells #[.int .i64 kk,.int .i64 (m:Int),.int .i64 p,.int .i64 ii,.string s,.string ty] 47 (0,0)):=(heap_setCell_other _ _ _ _ (by have:=HZw.out.2;simp;omega)).trans HX2.out
     generalize w2.setCell ⟨w.heap.size,i,none⟩ (.int .i64 (i:Int)) = w3 at *
     clear d1 hcc hcf
     obtain ⟨⟨_,d1,_⟩,_⟩:=six_block hx3
     clear hx3
     by_cases hm0:0 < m
     ·have t3:decide (0 < (m:Int)) = true:=by simpa using hm0
      have HSt:=Hd (begins_step (a:=st.getD (m - 1) 0) HG.out.rest HDr.out (by simp) (by simp;omega) (by simp [hm0]))
      simp only [Int.toNat_natCast] at HSt
      have htop:=HM3.out.top hq hm0
      have HM4:=Hd (HM3.out.store (st.getD (m - 1) 0))
      simp only [natV] at HM4
      obtain ⟨hcc,hcf⟩:=HM3.out.cell
      simp only [natV] at hcc
      generalize st.getD (m - 1) 0 = av at *
      go_upto_region 11 with fail
      generalize w3.setCell ⟨w.heap.size,i,none⟩ (.int .i64 (av:Int)) = w4 at *
      clear hcc hcf htop d1
      have HCl:=Hd (show ∀ w',Below w4.heap.size w4 w' → w'.cell? ⟨w.heap.size,i,none⟩ = some (.int .i64 (av:Int)) from fun w' hb=>by rw [hb.cell HM4.out.lt];exact HM4.out.cell.1)
      have hcl:=HM4.out.cell.1
      simp only [natV] at hcl
      obtain ⟨hcap,hcm,hzz⟩:=HM4.out.cap_le
      have hqc:q ≤ c':=by omega
      have HZ:=Hd hzz
      have HOw:=Hd (HM4.out.node hq)
      clear hzz
      go_region_held3 (fun w'=>w'.cell? ⟨w.heap.size,i,none⟩ = some (.int .i64 (av:Int))) (first | assumption | exact HCl.out _ ((Below.refl _ _).drew) | exact HCl.out _ ((Below.refl _ _).alloc (Nat.le_refl _) _) | exact HCl.out _ (((Below.refl _ _).alloc (Nat.le_refl _) _).drew) | exact HCl.out _ (blw1 _ _) | exact HCl.out _ (blw2 _ _ _))
       ((refine step_append_lies _ (by rfl) _ _ _ (by rfl) w.heap.size 3 i0 (.int .i64 0) 1 8 Tryz.underlying124 HI0.out.1 HI0.out.2.1 HI0.out.2.2.1 HI0.out.2.2.2 (by rfl) (by decide) (.slice (some ⟨g',0,none⟩) q c') q ((st.drop m).reverse.map natV) (by rfl) ?_ ⟨w4.heap.size,0,none⟩ 1 1 [.int .i64 (av:Int)] (by rfl) (by rfl) (World.news_of_block (cs:=#[.int .i64 (av:Int)]) (heap_alloc_new _ _)) (by simp [Value.oneCell']) (by omega) (by unfold maxLen;omega) (by omega) ?_ (w4.heap.size + 1) ?_ ?_;(next=>exact HOw.out.belowed (blw1 _ _));(next=>exact Nat.le_trans HZ.out (blw1 _ _).size);(next=>simp);intro g5 cp5 w5 hown5 hgrow5 hat5 hlt5;have HN5:=Hd (HM4.out.next hq HG.out.stl (blw1 _ _) hown5 hgrow5 (by rcases hat5 with h | h;exact .inl h;exact .inr (by rw [h];simp)) HSt.out);have hcl5:=HN5.out.lastc;clear hown5 hgrow5 hat5 hlt5))
      go_wp2_with fail
      go_roundg (t.length - (i + 1))
      case measure=>omega
      case rel=>exact ⟨i + 1,g5,cp5,pre ++ [av],av :: st.drop m,by omega,by omega,by rw [Int.natCast_add];rfl,by rw [List.length_cons,List.length_drop,show st.length - m = q by omega],HN5⟩
     ·have t3:decide (0 < (m:Int)) = false:=by simp;omega
      have HSt:=Hd (begins_step (a:=i) HG.out.rest HDr.out (by simp) (by simp;omega) (by simp [hm0]))
      simp only [Int.toNat_natCast] at HSt
      go_upto_region 11 with fail
      clear d1
      have HCl:=Hd (show ∀ w',Below w3.heap.size w3 w' → w'.cell? ⟨w.heap.size,i,none⟩ = some (.int .i64 (i:Int)) from fun w' hb=>by rw [hb.cell HM3.out.lt];exact HM3.out.cell.1)
      have hcl:=HM3.out.cell.1
      simp only [natV] at hcl
      obtain ⟨hcap,hcm,hzz⟩:=HM3.out.cap_le
      have hqc:q ≤ c':=by omega
      have HZ:=Hd hzz
      have HOw:=Hd (HM3.out.node hq)
      clear hzz
      go_region_held3 (fun w'=>w'.cell? ⟨w.heap.size,i,none⟩ = some (.int .i64 (i:Int))) (first | assumption | exact HCl.out _ ((Below.refl _ _).drew) | exact HCl.out _ ((Below.refl _ _).alloc (Nat.le_refl _) _) | exact HCl.out _ (((Below.refl _ _).alloc (Nat.le_refl _) _).drew) | exact HCl.out _ (blw1 _ _) | exact HCl.out _ (blw2 _ _ _))
       ((refine step_append_lies _ (by rfl) _ _ _ (by rfl) w.heap.size 3 i0 (.int .i64 0) 1 8 Tryz.underlying124 HI0.out.1 HI0.out.2.1 HI0.out.2.2.1 HI0.out.2.2.2 (by rfl) (by decide) (.slice (some ⟨g',0,none⟩) q c') q ((st.drop m).reverse.map natV) (by rfl) ?_ ⟨w3.heap.size,0,none⟩ 1 1 [.int .i64 (i:Int)] (by rfl) (by rfl) (World.news_of_block (cs:=#[.int .i64 (i:Int)]) (heap_alloc_new _ _)) (by simp [Value.oneCell']) (by omega) (by unfold maxLen;omega) (by omega) ?_ (w3.heap.size + 1) ?_ ?_;(next=>exact HOw.out.belowed (blw1 _ _));(next=>exact Nat.le_trans HZ.out (blw1 _ _).size);(next=>simp);intro g5 cp5 w5 hown5 hgrow5 hat5 hlt5;have HN5:=Hd (HM3.out.next hq HG.out.stl (blw1 _ _) hown5 hgrow5 (by rcases hat5 with h | h;exact .inl h;exact .inr (by rw [h];simp)) HSt.out);have hcl5:=HN5.out.lastc;clear hown5 hgrow5 hat5 hlt5))
      go_wp2_with fail
      go_roundg (t.length - (i + 1))
      case measure=>omega
      case rel=>exact ⟨i + 1,g5,cp5,pre ++ [i],i :: st.drop m,by omega,by omega,by rw [Int.natCast_add];rfl,by rw [List.length_cons,List.length_drop,show st.length - m = q by omega],HN5⟩
    ·have t2:decide ((st.length:Int) - (m:Int) < 0) = true:=by simp;omega
     go_wp2_with fail
     go_ret2
     exact begEnd_no (begins_stop HG.out.rest HDr.out (.inr (by simp;omega))) (HG.out.below.trans (HB2.out.mono HG.out.below.size))
  ·obtain rfl:i = t.length:=by omega
   by_cases h1:st.length = 1
   ·have t2:((st.length:Int) == 1) = true:=by rw [h1];rfl
    go_wp2_with fail
    go_ret2
    exact begEnd_yes ((begins_done HG.out.rest).1 h1) HG.out.done HG.out.below
   ·have t2:((st.length:Int) == 1) = false:=by simp;omega
    go_wp2_with fail
    go_ret2
    exact begEnd_no ((begins_done HG.out.rest).2 h1) HG.out.below
end Go.Proofs.YtbbaooeioogijaaGreatDoor
