/- A unit of one's own, written to: a parameter, a node. -/
import Derived.Test.YtkokdafkjjcgoaaGreatDoorMg37
import Derived.Laws.StructEq
namespace Go.Proofs.YtkokdafkjjcgoaaGreatDoor
open Go.RowKit
theorem flat_set1 {α:Type} {k:Nat} {cells:α → List Value} (hk:∀ a,(cells a).length = k) {x x':α} {j:Nat} {u:Value} (hj:j < k) (hc:cells x' = (cells x).set j u):∀ (L:List α) (i:Nat),L[i]? = some x → (L.flatMap cells).set (i * k + j) u = (L.set i x').flatMap cells
 | [],_,h=>by simp at h
 | y :: L,0,h=>by
   obtain rfl:y = x:=by simpa using h
   rw [List.set_cons_zero,List.flatMap_cons,List.flatMap_cons,hc,Nat.zero_mul,Nat.zero_add,List.set_append_left _ _ (by rw [hk];exact hj)]
 | y :: L,i + 1,h=>by
   rw [List.set_cons_succ,List.flatMap_cons,List.flatMap_cons,← flat_set1 hk hj hc L i (by simpa using h),List.set_append_right _ _ (by rw [hk,Nat.add_mul];omega),hk]
   congr 2
   rw [Nat.add_mul]
   omega
theorem own_set1 {α:Type} {k:Nat} {cells:α → List Value} (hk:∀ a,(cells a).length = k) {w:World} {base n g cap i j:Nat} {T:TypeId} {L:List α} {x x':α} {u:Value} (h:w.ownsRow base T k (.slice (some ⟨g,0,none⟩) n cap) n (L.flatMap cells)) (hj:j < k) (hc:cells x' = (cells x).set j u) (hx:L[i]? = some x) :
 (w.setCell ⟨g,i * k + j,none⟩ u).ownsRow base T k (.slice (some ⟨g,0,none⟩) n cap) n ((L.set i x').flatMap cells):=by
 rw [← flat_set1 hk hj hc L i hx]
 exact own_put h
theorem flat_same {α:Type} {cells:α → List Value} {x x':α} (hc:cells x' = cells x):∀ (L:List α) (i:Nat),L[i]? = some x → (L.set i x').flatMap cells = L.flatMap cells
 | [],_,h=>by simp at h
 | y :: L,0,h=>by
   obtain rfl:y = x:=by simpa using h
   rw [List.set_cons_zero,List.flatMap_cons,List.flatMap_cons,hc]
 | y :: L,i + 1,h=>by
   rw [List.set_cons_succ,List.flatMap_cons,List.flatMap_cons,flat_same hc L i (by simpa using h)]
theorem FnsC.put {B:Nat} {w w':World} {v:Value} {Q:List (FnU × Value × Value)} (h:FnsC B w v Q) {j k:Nat} {q q':FnU × Value × Value} (hq:Q[j]? = some q) (hs:q'.2 = q.2) (hc:fnUCells q' = fnUCells q) (hg:w.grownBy w' (some k)) (hk:BlkU q k) (hq':FnC B w' q'):FnsC B w' v (Q.set j q'):=by
 have hbl:∀ b,BlkU q' b ↔ BlkU q b:=fun b=>by unfold BlkU;rw [hs]
 have hjl:=(List.getElem?_eq_some_iff.1 hq).1
 have hpw:=List.pairwise_iff_getElem.1 h.2.2
 have hap:∀ (a b:Nat) (x y:FnU × Value × Value),Q[a]? = some x → Q[b]? = some y → a ≠ b → ApartU x y:=fun a b x y ha hb hne=>by
  obtain ⟨ha1,rfl⟩:=List.getElem?_eq_some_iff.1 ha
  obtain ⟨hb1,rfl⟩:=List.getElem?_eq_some_iff.1 hb
  rcases Nat.lt_or_gt_of_ne hne with h1 | h1
  ·exact hpw a b ha1 hb1 h1
  ·exact fun c hc hc'=>hpw b a hb1 ha1 h1 c hc' hc
 refine ⟨?_,fun x hx=>?_,?_⟩
 ·rw [List.length_set,flat_same hc Q j hq]
  exact own_keptU h.1 hg (fun r e=>by cases e;exact (h.2.1 q (List.mem_of_getElem? hq)).2 k hk)
 ·obtain ⟨a,ha⟩:=List.mem_iff_getElem?.1 hx
  by_cases e:j = a
  ·subst e
   rw [List.getElem?_set_self hjl] at ha
   obtain rfl:=Option.some.inj ha
   exact ⟨hq',fun b hb=>(h.2.1 q (List.mem_of_getElem? hq)).2 b ((hbl b).1 hb)⟩
  ·rw [List.getElem?_set_ne e] at ha
   obtain ⟨h1,h2⟩:=h.2.1 x (List.mem_of_getElem? ha)
   exact ⟨h1.kept hg (fun r e' hb=>by cases e';exact hap j a q x hq ha e k hk hb),h2⟩
 ·rw [List.pairwise_iff_getElem]
  intro a b ha hb hlt c hc1 hc2
  rw [List.length_set] at ha hb
  have key:∀ (a:Nat) (ha:a < Q.length) (ha':a < (Q.set j q').length),BlkU (Q.set j q')[a] c → BlkU Q[a] c:=fun a ha ha' hb=>by
   rw [List.getElem_set] at hb
   split at hb
   ·rename_i e
    subst e
    rw [List.getElem?_eq_getElem ha] at hq
    obtain rfl:=Option.some.inj hq
    exact (hbl c).1 hb
   ·exact hb
  exact hpw a b ha hb hlt c (key a ha _ hc1) (key b hb _ hc2)
theorem fnU_same {q q':FnU × Value × Value} (h1:q'.1.at_ = q.1.at_) (h2:q'.1.name = q.1.name) (h3:q'.1.type = q.1.type) (h4:q'.2 = q.2):fnUCells q' = fnUCells q:=by
 unfold fnUCells
 rw [h1,h2,h3,h4]
theorem UnC.put {B M:Nat} {w w':World} {u:UnU} {vs vg vf:Value} {Q:List (FnU × Value × Value)} (h:UnC B w u vs vg vf M Q) {j k:Nat} {q q':FnU × Value × Value} (hq:Q[j]? = some q) (hs:q'.2 = q.2) (hc:fnUCells q' = fnUCells q) (hg:w.grownBy w' (some k)) (hk:BlkU q k) (hq':FnC M w' q'):UnC B w' ⟨u.structs,u.globals,u.funcs.set j q'.1⟩ vs vg vf M (Q.set j q'):=by
 have hkM:M ≤ k:=((h.funcs.2.1 q (List.mem_of_getElem? hq)).1.lt hk).1
 have hkp:KeepPU (fun b=>B ≤ b ∧ b < M) (fun b=>B ≤ b ∧ b < M) w w':=fun b hb=>⟨hg.block b (Nat.lt_of_lt_of_le hb.2 h.low.2) (fun e=>by have:=Option.some.inj e;have:=hb.2;omega),hb⟩
 exact ⟨h.structs.keep hkp,h.globals.keep hkp,h.funcs.put hq hs hc hg hk hq',by rw [List.map_set,h.fns],by rw [List.length_set];exact h.few,h.low.1,Nat.le_trans h.low.2 hg.size⟩
theorem UnC.putA {B M:Nat} {w w':World} {st:List Sr} {gl:List GlU} {L:List FnU} {vs vg vf a b:Value} {Q:List (FnU × Value × Value)} {j k:Nat} {f f':FnU} (h:UnC B w ⟨st,gl,L⟩ vs vg vf M Q) (hq:Q[j]? = some (f,a,b)) (h1:f'.at_ = f.at_) (h2:f'.name = f.name) (h3:f'.type = f.type) (hg:w.grownBy w' (some k)) (hk:BlkU (f,a,b) k) (hq':FnC M w' (f',a,b)):UnC B w' ⟨st,gl,L.set j f'⟩ vs vg vf M (Q.set j (f',a,b)):=
 h.put (q':=(f',a,b)) hq rfl (fnU_same h1 h2 h3 rfl) hg hk hq'
theorem UnC.putB {B M:Nat} {w w':World} {st:List Sr} {gl:List GlU} {L:List FnU} {vs vg vf a b:Value} {Q:List (FnU × Value × Value)} {j k:Nat} {f f':FnU} (h:UnC B w ⟨st,gl,L.set j f⟩ vs vg vf M Q) (hq:Q[j]? = some (f,a,b)) (h1:f'.at_ = f.at_) (h2:f'.name = f.name) (h3:f'.type = f.type) (hg:w.grownBy w' (some k)) (hk:BlkU (f,a,b) k) (hq':FnC M w' (f',a,b)):UnC B w' ⟨st,gl,L.set j f'⟩ vs vg vf M (Q.set j (f',a,b)):=by
 have:=h.putA hq h1 h2 h3 hg hk hq'
 rw [List.set_set] at this
 exact this
theorem FnC.nd {B:Nat} {w:World} {f:FnU} {gb n cb i:Nat} {vp:Value} {x x':Nd} {u:Value} (j:Nat) (h:FnC B w (f,vp,.slice (some ⟨gb,0,none⟩) n cb)) (hx:f.body[i]? = some x) (hj:j < 6) (hc:ndCells x' = (ndCells x).set j u) (hn:NdOk x'):FnC B (w.setCell ⟨gb,i * 6 + j,none⟩ u) (⟨f.at_,f.name,f.type,f.params,f.body.set i x'⟩,vp,.slice (some ⟨gb,0,none⟩) n cb):=by
 have hl:n = f.body.length:=by
  obtain ⟨a,c,e,_⟩:=own_slU nd_len h.body rfl
  simp only [Value.slice.injEq] at e
  exact e.2.1
 subst hl
 refine ⟨h.name,h.type,h.at_,h.plen,h.pok,by simpa using h.blen,fun y hy=>?_,own_keptU h.params (grn_setU w gb _ _) (fun r e hv=>by cases e;exact h.apart _ hv rfl),?_,h.apart⟩
 ·rcases List.mem_or_eq_of_mem_set hy with hy | rfl
  ·exact h.bok y hy
  ·exact hn
 ·show World.ownsRow _ _ _ _ _ (f.body.set i x').length _
  rw [List.length_set]
  exact own_set1 nd_len h.body hj hc hx
theorem eqNd_is (x y:Nd):eqNd x y = (decide (x.kind = y.kind) && (decide (x.n = y.n) && (decide (x.int = y.int) && (decide (x.text.toList = y.text.toList) && decide (x.type.toList = y.type.toList))))):=by
 have e:∀ a b:ByteArray,(a.toList = b.toList) = (a = b):=fun a b=>propext ⟨fun e=>toList_eq (by rwa [ByteArray.toList_eq,ByteArray.toList_eq] at e),fun e=>by rw [e]⟩
 simp only [eqNd,e]
theorem set_six2 {w:World} {b:Nat} {a0 a1 a2 a3 a4 a5:Value} {T:TypeId} (h:w.heap[b]? = some (.cells #[a0,a1,a2,a3,a4,a5] T (0,0))) (v:Value):(w.setCell ⟨b,2,none⟩ v).heap[b]? = some (.cells #[a0,a1,v,a3,a4,a5] T (0,0)):=by
 simp [World.setCell,Array.getElem?_modify,h]
set_option maxHeartbeats 4000000 in
theorem same1_ok (x y:Nd) (w:World):Calls Tryz.prog 50 #[ndV x,ndV y] w fun e w'=>e = .returned (.bool (eqNd x y)) ∧ Below w.heap.size w w':=by
 have hx:((w.alloc (ndObj x)).alloc (ndObj y)).heap[w.heap.size]? = some (ndObj x):=(Below.heap_alloc _ _ _ (by simp)).trans (heap_alloc_new _ _)
 have hy:((w.alloc (ndObj x)).alloc (ndObj y)).heap[w.heap.size + 1]? = some (ndObj y):=by
  have:=heap_alloc_new (w.alloc (ndObj x)) (ndObj y)
  rwa [World.size_alloc] at this
 have hb:Below w.heap.size w ((w.alloc (ndObj x)).alloc (ndObj y)):=(ba1 _ _).alloc (ba1 _ _).size _
 rw [eqNd_is]
 obtain ⟨k,n,p,i,s,t⟩:=x
 obtain ⟨k',n',p',i',s',t'⟩:=y
 simp only [ndV,ndObj] at *
 go_enter Tryz.func50,Tryz.ntmps50
 go_upto_region 1 with fail
 generalize (w.alloc _).alloc _ = w2 at *
 obtain ⟨⟨x0,x1,x2,x3,x4,x5⟩,fx⟩:=six_block hx
 obtain ⟨⟨y0,y1,y2,y3,y4,y5⟩,fy⟩:=six_block hy
 have fx2:=fx 2
 have fy2:=fy 2
 have hx':=(heap_setCell_other (w2.setCell ⟨w.heap.size,2,none⟩ (.int .i64 0)) ⟨w.heap.size + 1,2,none⟩ w.heap.size (.int .i64 0) (by show w.heap.size ≠ w.heap.size + 1;omega)).trans (set_six2 hx (.int .i64 0))
 have hy':=set_six2 ((heap_setCell_other w2 ⟨w.heap.size,2,none⟩ (w.heap.size + 1) (.int .i64 0) (by show w.heap.size + 1 ≠ w.heap.size;omega)).trans hy) (.int .i64 0)
 have hb':=(hb.setCell (p:=⟨w.heap.size,2,none⟩) (Nat.le_refl _) (.int .i64 0)).setCell (p:=⟨w.heap.size + 1,2,none⟩) (Nat.le_succ _) (.int .i64 0)
 clear fx fy hx hy hb
 go_upto_region 2 with fail
 generalize (w2.setCell _ _).setCell _ _ = w3 at *
 obtain ⟨⟨x0,x1,x2,x3,x4,x5⟩,_⟩:=six_block hx'
 obtain ⟨⟨y0,y1,y2,y3,y4,y5⟩,_⟩:=six_block hy'
 go_wp2_with fail
 all_goals go_ret
 all_goals first
  | exact ⟨congrArg (fun b=>Ending.returned (.bool b)) (show true = _ from by simp [*]),hb'⟩
  | exact ⟨congrArg (fun b=>Ending.returned (.bool b)) (show false = _ from by simp [*]),hb'⟩
def eqPre (t u:List Nd) (i:Nat):Prop:=∀ j (h1:j < t.length) (h2:j < u.length),j < i → eqNd t[j] u[j] = true
set_option maxRecDepth 100000 in
set_option maxHeartbeats 4000000 in
theorem equalT_ok (a b:Option Addr) (ca cb:Nat) (t u:List Nd) (w:World) (hA:IsNds w.heap.size w a t) (hB:IsNds w.heap.size w b u) (hl:t.length * 64 ≤ 140737488351232) (hm:u.length * 64 ≤ 140737488351232) :
 Calls Tryz.prog 49 #[.slice a t.length ca,.slice b u.length cb,.func (.func 50) #[] #[]] w fun e w'=>e = .returned (.bool (sameT t u)) ∧ Below w.heap.size w w':=by
 have HA:=Hd hA
 have HB:=Hd hB
 have HS:=Hd (fun x y w=>same1_ok x y w)
 have h1:(t.length:Int) ≤ 2199023255488:=by omega
 have h2:(u.length:Int) ≤ 2199023255488:=by omega
 clear hA hB
 by_cases hne:t.length = u.length
 ·have t1:((t.length:Int) != (u.length:Int)) = false:=by rw [hne];simp
  have HNe:=Hd hne
  clear hne
  go_enter Tryz.func49,Tryz.ntmps49
  go_wp2_with fail
  go_loopg [17] t.length (fun m v17 wy=>∃ i:Nat,i ≤ t.length ∧ i + m = t.length ∧ v17 = .int .i64 (i:Int) ∧ Hid (eqPre t u i) ∧ Hid (Below w.heap.size w wy))
  case atStart=>exact ⟨0,by omega,by omega,rfl,Hd (fun j _ _ h=>by omega),Hd (Below.refl _ _)⟩
  case round=>
   obtain ⟨i,hi,him,rfl,HP,HW⟩:=hrel
   by_cases hlt:i < t.length
   ·have hlu:i < u.length:=by have:=HNe.out;omega
    obtain ⟨b1,o1,ha,hb1,c0,c1,c2,c3,c4,c5⟩:=nds_at HA.out hlt
    obtain ⟨b2,o2,hb,hb2,e0,e1,e2,e3,e4,e5⟩:=nds_at HB.out hlu
    subst ha hb
    rw [← HW.out.cell hb1] at c0 c1 c2 c3 c4 c5
    rw [← HW.out.cell hb2] at e0 e1 e2 e3 e4 e5
    have HNo:=Hd (sameT_no hlt hlu)
    have HYe:=Hd (fun (h:eqNd t[i] u[i] = true)=>show eqPre t u (i + 1) from fun j h1 h2 hj=>by
     rcases Nat.lt_or_ge j i with h' | h'
     ·exact HP.out j h1 h2 h'
     ·obtain rfl:j = i:=by omega
      exact h)
    have HS1:=Hd (fun w=>HS.out t[i] u[i] w)
    generalize t[i] = x at *
    generalize u[i] = y at *
    have hi1:(i:Int) < (t.length:Int):=by omega
    have hi2:(i:Int) < (u.length:Int):=by omega
    generalize hr:eqNd x y = r at *
    obtain ⟨k,n,p,ii,s,ty⟩:=x
    obtain ⟨k',n',p',ii',s',ty'⟩:=y
    simp only [ndV] at c0 c1 c2 c3 c4 c5 e0 e1 e2 e3 e4 e5 HS1
    clear hr HP
    go_upto_region 6 with fail
    generalize hg4:wr.alloc _ = w4 at *
    have hx4:=heap_alloc_new wr (ndObj ⟨k,n,p,ii,s,ty⟩)
    have hb4:=ba1 wr (ndObj ⟨k,n,p,ii,s,ty⟩)
    simp only [ndObj] at hx4 hb4
    rw [hg4] at hx4 hb4
    have hb2w:=Nat.lt_of_lt_of_le hb2 HW.out.size
    rw [← hb4.cell (p:=⟨b2,_,none⟩) hb2w] at e0 e1 e2 e3 e4 e5
    have hal:∀ o k,(w4.alloc o).cell? ⟨b2,k,none⟩ = w4.cell? ⟨b2,k,none⟩:=fun o k=>(ba1 w4 o).cell (p:=⟨b2,k,none⟩) (Nat.lt_of_lt_of_le hb2w hb4.size)
    clear hg4
    go_upto_region 7 with fail
    generalize hg5:w4.alloc _ = w5 at *
    have hx5:=heap_alloc_new w4 (ndObj ⟨k',n',p',ii',s',ty'⟩)
    have hb5:=ba1 w4 (ndObj ⟨k',n',p',ii',s',ty'⟩)
    simp only [ndObj] at hx5 hb5
    rw [hg5] at hx5 hb5
    obtain ⟨⟨c0,c1,c2,c3,c4,c5⟩,_⟩:=six_block ((hb5.block _ (lt_of_heap hx4)).trans hx4)
    obtain ⟨⟨e0,e1,e2,e3,e4,e5⟩,_⟩:=six_block hx5
    have HB5:=Hd (HW.out.trans ((hb4.trans (hb5.mono hb4.size)).mono HW.out.size))
    clear hg5 hal hx4 hx5 hb4 hb5
    cases r
    ·have hv:=Hd (HNo.out rfl)
     go_wp2_with (go_at_call 50;(with_reducible refine (HS1.out _).mono ?_);rintro e w6 ⟨rfl,hb6⟩;have HB6:=Ht HB5 hb6;clear hb6)
     go_ret
     exact ⟨by rw [hv.out];rfl,HB6.out⟩
    ·have HY:=Hd (HYe.out rfl)
     go_wp2_with (go_at_call 50;(with_reducible refine (HS1.out _).mono ?_);rintro e w6 ⟨rfl,hb6⟩;have HB6:=Ht HB5 hb6;clear hb6)
     go_roundg (t.length - (i + 1))
     case measure=>omega
     case rel=>exact ⟨i + 1,by omega,by omega,by rw [Int.natCast_add];rfl,HY,HB6⟩
   ·obtain rfl:i = t.length:=by omega
    have hv:=Hd (sameT_yes HNe.out (fun j h1 h2=>HP.out j h1 h2 h1))
    go_wp2_with fail
    go_ret
    exact ⟨by rw [hv.out];rfl,HW.out⟩
 ·have t1:((t.length:Int) != (u.length:Int)) = true:=by rw [bne_iff_ne];omega
  have hv:=Hd (sameT_len hne)
  clear hne
  go_enter Tryz.func49,Tryz.ntmps49
  go_wp2_with fail
  go_ret
  exact ⟨by rw [hv.out];rfl,Below.refl _ _⟩
set_option maxHeartbeats 4000000 in
theorem treeSame_ok (a b:Option Addr) (ca cb:Nat) (t u:List Nd) (w:World) (hA:IsNds w.heap.size w a t) (hB:IsNds w.heap.size w b u) (hl:t.length * 64 ≤ 140737488351232) (hm:u.length * 64 ≤ 140737488351232) :
 Calls Tryz.prog 25 #[.slice a t.length ca,.slice b u.length cb] w fun e w'=>e = .returned (.bool (sameT t u)) ∧ Below w.heap.size w w':=by
 have H:=Hd (equalT_ok a b ca cb t u w hA hB hl hm)
 generalize sameT t u = r at *
 clear hA hB
 go_enter Tryz.func25,Tryz.ntmps25
 go_wp2_with (go_at_call 49;(with_reducible refine H.out.mono ?_);rintro e w1 ⟨rfl,hb⟩)
 go_ret
 exact ⟨rfl,hb⟩
def nameNd (s:ByteArray):Nd:=⟨3,0,0,0,s,⟨#[]⟩⟩
def twoNd (s:ByteArray):Nd:=⟨7,2,0,0,s,⟨#[]⟩⟩
def tA:List Nd:=[nameNd ⟨#[97]⟩]
def tB:List Nd:=[nameNd ⟨#[98]⟩]
def tC:List Nd:=[nameNd ⟨#[99]⟩]
def twoT (s:ByteArray) (a b:List Nd):List Nd:=a ++ b ++ [twoNd s]
theorem works_1:printXR (twoT ⟨#[42]⟩ tA (twoT ⟨#[43]⟩ tB tC)) = (⟨#[97,32,42,32,40,32,98,32,43,32,99,32,41]⟩,0):=by kernel_rfl
theorem works_2:printXR (twoT ⟨#[43]⟩ (twoT ⟨#[42]⟩ tA tB) tC) = (⟨#[97,32,42,32,98,32,43,32,99]⟩,0):=by kernel_rfl
theorem works_3:partsR (twoT ⟨#[43]⟩ tA tB) 2 = ([0,1],0):=by kernel_rfl
def RowEnd (T:List Nd) (w:World) (e:Ending) (w':World):Prop:=(∃ a c,e = .returned (.slice a T.length c) ∧ NdRow w' w.heap.size (.slice a T.length c) T ∧ IsNds w'.heap.size w' a T ∧ (a = none → T = [] ∧ c = 0)) ∧ Below w.heap.size w w'
theorem rowEnd {T:List Nd} {w w':World} {v:Value} (h:NdRow w' w.heap.size v T) (hb:Below w.heap.size w w'):RowEnd T w (.returned v) w':=by
 obtain ⟨a,c,hv,hN,hn⟩:=own_sl nd_len h rfl
 subst hv
 exact ⟨⟨a,c,rfl,h,hN,hn⟩,hb⟩
theorem nd_one1 (x:Nd):∀ u ∈ ndCells x,u.oneCell' = true:=by
 have h:=nd_one [x]
 rwa [List.flatMap_cons,List.flatMap_nil,List.append_nil] at h
theorem nd_cells_new (w:World) (x:Nd):∀ (q:Nat) u,(ndCells x)[q]? = some u → (w.alloc (ndObj x)).cell? ((⟨w.heap.size,0,none⟩:Addr).add q) = some u:=fun q u hu=>by
 obtain ⟨⟨a0,a1,a2,a3,a4,a5⟩,_⟩:=six_block (heap_alloc_new w (ndObj x))
 rw [addN,Nat.zero_add]
 match q,hu with
 | 0,hu=>obtain rfl:=Option.some.inj hu;exact a0
 | 1,hu=>obtain rfl:=Option.some.inj hu;exact a1
 | 2,hu=>obtain rfl:=Option.some.inj hu;exact a2
 | 3,hu=>obtain rfl:=Option.some.inj hu;exact a3
 | 4,hu=>obtain rfl:=Option.some.inj hu;exact a4
 | 5,hu=>obtain rfl:=Option.some.inj hu;exact a5
set_option maxHeartbeats 4000000 in
theorem name9_ok (s:ByteArray) (w:World):Calls Tryz.prog 59 #[.string s] w (RowEnd [nameNd s] w):=by
 have hr:=World.ownsRow_lit (e:=36) (base:=w.heap.size) (size:=6) w #[.int .i64 3,.int .i64 0,.int .i64 0,.int .i64 0,.string s,.string ⟨#[]⟩] 1 (Nat.le_refl _) (by decide) rfl
 have hR:=Hd (show NdRow (w.alloc (ndObj (nameNd s))) w.heap.size _ [nameNd s] from hr)
 clear hr
 go_enter Tryz.func59,Tryz.ntmps59
 go_wp2_with fail
 go_ret
 exact rowEnd hR.out (ba1 _ _)
set_option maxHeartbeats 4000000 in
theorem two9_ok (s:ByteArray) (a b:Option Addr) (ca cb:Nat) (A B:List Nd) (w:World) (hA:IsNds w.heap.size w a A) (hB:IsNds w.heap.size w b B) (hn:B ≠ []) (h1:A.length ≤ 100) (h2:B.length ≤ 100) (hnil:a = none → A = [] ∧ ca = 0) :
 Calls Tryz.prog 58 #[.string s,.slice a A.length ca,.slice b B.length cb] w (RowEnd (twoT s A B) w):=by
 obtain ⟨i0,hi,hz0,hz1,hz2⟩:=info_parts infoNd
 have HI0:=Hd (And.intro hi (And.intro hz0 (And.intro hz1 hz2)))
 have HC:=Hd (copyTree_ok a ca A w hA (by omega) hnil)
 obtain ⟨bb,ob,hb,hbl,_⟩:=hB hn
 subst hb
 have HB:=Hd hB
 have HK:=Hd (fun w1=>nd_cells_new w1 (twoNd s))
 have hOne:=nd_one1 (twoNd s)
 unfold twoT
 simp only [ndObj,ndCells,twoNd] at *
 clear hi hz0 hz1 hz2 hA hB hn hnil hbl
 go_enter Tryz.func58,Tryz.ntmps58
 go_wp2_with (first
  | (go_at_call 9;(with_reducible refine HC.out.mono ?_);rintro e w1 ⟨⟨v1,rfl,hr1⟩,hb1⟩;have HR1:=Hd hr1;have HB1:=Hd hb1;have HN1:=Hd (HB.out.below hb1 (Nat.le_refl _));clear hr1 hb1)
  | (at_builtin;go_loud (refine wpList_append_own _ rfl _ _ _ rfl w.heap.size 36 i0 _ 6 64 Tryz.underlying23 HI0.out.1 HI0.out.2.1 HI0.out.2.2.1 HI0.out.2.2.2 rfl (by decide) _ A.length (A.flatMap ndCells) rfl HR1.out ⟨bb,ob,none⟩ B.length cb (B.flatMap ndCells) rfl (flat_len nd_len B) (sl_news nd_len HN1.out) (nd_one B) (by unfold maxLen;omega) (by omega) HB1.out.size ?_);intro v2 w2 hown hgrow _;have HR2:=Hd hown;have HB2:=Hd (HB1.out.grown hgrow HB1.out.size (fun k hk=>(World.ownsRow.lt HR1.out k hk).1));clear hown hgrow)
  | (at_builtin;go_loud (refine wpList_append_own _ rfl _ _ _ rfl w.heap.size 36 i0 _ 6 64 Tryz.underlying23 HI0.out.1 HI0.out.2.1 HI0.out.2.2.1 HI0.out.2.2.2 rfl (by decide) _ (A.length + B.length) (A.flatMap ndCells ++ B.flatMap ndCells) rfl (World.ownsRow.belowed HR2.out (ba1 _ _)) ⟨w2.heap.size,0,none⟩ 1 1 [.int .i64 7,.int .i64 2,.int .i64 0,.int .i64 0,.string s,.string ⟨#[]⟩] rfl rfl (HK.out w2) hOne (by unfold maxLen;omega) (by omega) (Nat.le_trans HB2.out.size (ba1 _ _).size) ?_);intro v3 w3 hown hgrow _;have HR3:=Hd hown;have HB3:=Hd ((HB2.out.trans ((ba1 w2 _).mono HB2.out.size)).grown hgrow (Nat.le_trans HB2.out.size (ba1 _ _).size) (fun k hk=>(World.ownsRow.lt HR2.out k hk).1));clear hown hgrow))
 go_ret
 refine rowEnd ?_ HB3.out
 unfold NdRow
 simpa [List.flatMap_append,Nat.add_assoc,ndCells] using HR3.out
theorem nd9_small (x:Nd) (h:x.kind = 3 ∨ x.kind = 7) (h2:x.n = 0 ∨ x.n = 2) (h3:x.at_ = 0) (h4:x.int = 0):NdOk x:=by
 refine ⟨⟨?_,?_⟩,⟨?_,?_⟩,⟨?_,?_⟩,⟨?_,?_⟩⟩ <;> omega
theorem nds9_ok {s r:ByteArray}:(∀ x ∈ twoT s tA (twoT r tB tC),NdOk x) ∧ (∀ x ∈ twoT s (twoT r tA tB) tC,NdOk x) ∧ ∀ x ∈ twoT s tA tB,NdOk x:=by
 refine ⟨?_,?_,?_⟩ <;> intro x hx <;> simp [twoT,tA,tB,tC] at hx
 ·rcases hx with rfl | rfl | rfl | rfl | rfl <;> exact nd9_small _ (by simp [nameNd,twoNd]) (by simp [nameNd,twoNd]) rfl rfl
 ·rcases hx with rfl | rfl | rfl | rfl | rfl <;> exact nd9_small _ (by simp [nameNd,twoNd]) (by simp [nameNd,twoNd]) rfl rfl
 ·rcases hx with rfl | rfl | rfl <;> exact nd9_small _ (by simp [nameNd,twoNd]) (by simp [nameNd,twoNd]) rfl rfl
theorem nats01_new (w:World) (T:TypeId):IsNats (w.alloc (.cells #[.int .i64 0,.int .i64 1] T)).heap.size (w.alloc (.cells #[.int .i64 0,.int .i64 1] T)) (some ⟨w.heap.size,0,none⟩) [0,1]:=fun _=>⟨w.heap.size,0,rfl,by simp,fun i x hx j u hu=>by
 obtain ⟨⟨a0,a1⟩,_⟩:=two_block (heap_alloc_new w (.cells #[.int .i64 0,.int .i64 1] T))
 match i,hx,j,hu with
 | 0,hx,0,hu=>obtain rfl:=Option.some.inj hx;obtain rfl:=Option.some.inj hu;exact a0
 | 1,hx,0,hu=>obtain rfl:=Option.some.inj hx;obtain rfl:=Option.some.inj hu;exact a1⟩
set_option maxRecDepth 100000 in
set_option maxHeartbeats 4000000 in
theorem works9_ok (w:World) (hE:EnvP w):Calls Tryz.prog 29 #[] w fun e w'=>e = .returned (.bool true) ∧ Below w.heap.size w w':=by
 have HE:=Hd hE
 have KN1:=Hd (fun w=>show Calls Tryz.prog 59 #[.string ⟨#[97]⟩] w (RowEnd tA w) from name9_ok ⟨#[97]⟩ w)
 have KN2:=Hd (fun w=>show Calls Tryz.prog 59 #[.string ⟨#[98]⟩] w (RowEnd tB w) from name9_ok ⟨#[98]⟩ w)
 have KN3:=Hd (fun w=>show Calls Tryz.prog 59 #[.string ⟨#[99]⟩] w (RowEnd tC w) from name9_ok ⟨#[99]⟩ w)
 have KP1:=Hd (fun a b ca cb w hA hB hn=>two9_ok ⟨#[43]⟩ a b ca cb tB tC w hA hB (by simp [tC]) (by simp [tB]) (by simp [tC]) hn)
 have KT1:=Hd (fun a b ca cb w hA hB hn=>two9_ok ⟨#[42]⟩ a b ca cb tA (twoT ⟨#[43]⟩ tB tC) w hA hB (by simp [twoT]) (by simp [tA]) (by simp [twoT,tB,tC]) hn)
 have KX1:=Hd (fun a c w1 (hb:Below w.heap.size w w1) (hI:IsNds w1.heap.size w1 a (twoT ⟨#[42]⟩ tA (twoT ⟨#[43]⟩ tB tC)))=>treePrintX_ok a c _ w1 (hE.below hb) hI nds9_ok.1 (by simp [twoT,tA,tB,tC]))
 have KT2:=Hd (fun a b ca cb w hA hB hn=>two9_ok ⟨#[42]⟩ a b ca cb tA tB w hA hB (by simp [tB]) (by simp [tA]) (by simp [tB]) hn)
 have KP2:=Hd (fun a b ca cb w hA hB hn=>two9_ok ⟨#[43]⟩ a b ca cb (twoT ⟨#[42]⟩ tA tB) tC w hA hB (by simp [tC]) (by simp [twoT,tA,tB]) (by simp [tC]) hn)
 have KX2:=Hd (fun a c w1 (hb:Below w.heap.size w w1) (hI:IsNds w1.heap.size w1 a (twoT ⟨#[43]⟩ (twoT ⟨#[42]⟩ tA tB) tC))=>treePrintX_ok a c _ w1 (hE.below hb) hI nds9_ok.2.1 (by simp [twoT,tA,tB,tC]))
 have KP3:=Hd (fun a b ca cb w hA hB hn=>two9_ok ⟨#[43]⟩ a b ca cb tA tB w hA hB (by simp [tB]) (by simp [tA]) (by simp [tB]) hn)
 have KX3:=Hd (fun a c w1 (hb:Below w.heap.size w w1) (hI:IsNds w1.heap.size w1 a (twoT ⟨#[43]⟩ tA tB))=>treeParts_ok a c _ 2 w1 (hE.below hb).tp.te hI (nds9_ok (s:=⟨#[43]⟩) (r:=⟨#[43]⟩)).2.2 (by simp [twoT,tA,tB]))
 unfold StrEnd at KX1 KX2
 unfold PartsEnd at KX3
 rw [works_1] at KX1
 rw [works_2] at KX2
 rw [works_3] at KX3
 unfold RowEnd at KN1 KN2 KN3 KP1 KT1 KT2 KP2 KP3
 have KS:=Hd (fun a ca w1 (hA:IsNats w1.heap.size w1 a [0,1])=>show Calls Tryz.prog 14 #[.slice a 2 ca,.slice (some ⟨w1.heap.size,0,none⟩) 2 2] (w1.alloc (.cells #[.int .i64 0,.int .i64 1] 3)) _ from sameInts_ok a _ ca 2 [0,1] _ ((hA.below (ba1 _ _) (Nat.le_refl _)).mono (ba1 _ _).size) (nats01_new _ _) (by decide))
 have HB0:=Hd (Below.refl w.heap.size w)
 clear hE
 go_enter Tryz.func29,Tryz.ntmps29
 go_upto_region 2 with (first
  | (go_at_call 59;(with_reducible refine (KN1.out _).mono ?_);rintro e w1 ⟨⟨a1,c1,rfl,_,hN,hn⟩,hb⟩;have HB1:=Ht HB0 hb;have H1:=Hd hN;have N1:=Hd hn;clear hN hn;clear hb)
  | (go_at_call 59;(with_reducible refine (KN2.out _).mono ?_);rintro e w2 ⟨⟨a2,c2,rfl,_,hN,hn⟩,hb⟩;have HB2:=Ht HB1 hb;replace H1:=Hd ((H1.out.below hb (Nat.le_refl _)).mono hb.size);have H2:=Hd hN;have N2:=Hd hn;clear hN hn;clear hb)
  | (go_at_call 59;(with_reducible refine (KN3.out _).mono ?_);rintro e w3 ⟨⟨a3,c3,rfl,_,hN,hn⟩,hb⟩;have HB3:=Ht HB2 hb;replace H1:=Hd ((H1.out.below hb (Nat.le_refl _)).mono hb.size);replace H2:=Hd ((H2.out.below hb (Nat.le_refl _)).mono hb.size);have H3:=Hd hN;have N3:=Hd hn;clear hN hn;clear hb)
  | (go_at_call 58;(with_reducible refine (KP1.out a2 a3 c2 c3 _ H2.out H3.out N2.out).mono ?_);rintro e w4 ⟨⟨a4,c4,rfl,_,hN,hn⟩,hb⟩;have HB4:=Ht HB3 hb;replace H1:=Hd ((H1.out.below hb (Nat.le_refl _)).mono hb.size);have H4:=Hd hN;have N4:=Hd hn;clear hN hn;clear hb)
  | (go_at_call 58;(with_reducible refine (KT1.out a1 a4 c1 c4 _ H1.out H4.out N1.out).mono ?_);rintro e w5 ⟨⟨a5,c5,rfl,_,hN,hn⟩,hb⟩;have HB5:=Ht HB4 hb;have H5:=Hd hN;have N5:=Hd hn;clear hN hn;clear hb)
  | (go_at_call 27;(with_reducible refine (KX1.out a5 c5 _ HB5.out H5.out).mono ?_);rintro e w6 ⟨rfl,hb⟩;have HB6:=Ht HB5 hb;clear hb))
 clear H1 N1 H2 N2 H3 N3 H4 N4 H5 N5
 go_upto_region 3 with (first
  | (go_at_call 59;(with_reducible refine (KN1.out _).mono ?_);rintro e w7 ⟨⟨a1,c1,rfl,_,hN,hn⟩,hb⟩;have HB7:=Ht HB6 hb;have H1:=Hd hN;have N1:=Hd hn;clear hN hn;clear hb)
  | (go_at_call 59;(with_reducible refine (KN2.out _).mono ?_);rintro e w8 ⟨⟨a2,c2,rfl,_,hN,hn⟩,hb⟩;have HB8:=Ht HB7 hb;replace H1:=Hd ((H1.out.below hb (Nat.le_refl _)).mono hb.size);have H2:=Hd hN;have N2:=Hd hn;clear hN hn;clear hb)
  | (go_at_call 58;(with_reducible refine (KT2.out a1 a2 c1 c2 _ H1.out H2.out N1.out).mono ?_);rintro e w9 ⟨⟨a4,c4,rfl,_,hN,hn⟩,hb⟩;have HB9:=Ht HB8 hb;have H4:=Hd hN;have N4:=Hd hn;clear hN hn;clear hb)
  | (go_at_call 59;(with_reducible refine (KN3.out _).mono ?_);rintro e w10 ⟨⟨a3,c3,rfl,_,hN,hn⟩,hb⟩;have HB10:=Ht HB9 hb;replace H4:=Hd ((H4.out.below hb (Nat.le_refl _)).mono hb.size);have H3:=Hd hN;have N3:=Hd hn;clear hN hn;clear hb)
  | (go_at_call 58;(with_reducible refine (KP2.out a4 a3 c4 c3 _ H4.out H3.out N4.out).mono ?_);rintro e w11 ⟨⟨a5,c5,rfl,_,hN,hn⟩,hb⟩;have HB11:=Ht HB10 hb;have H5:=Hd hN;have N5:=Hd hn;clear hN hn;clear hb)
  | (go_at_call 27;(with_reducible refine (KX2.out a5 c5 _ HB11.out H5.out).mono ?_);rintro e w12 ⟨rfl,hb⟩;have HB12:=Ht HB11 hb;clear hb))
 clear H1 N1 H2 N2 H3 N3 H4 N4 H5 N5
 go_upto_region 4 with (first
  | (go_at_call 59;(with_reducible refine (KN1.out _).mono ?_);rintro e w13 ⟨⟨a1,c1,rfl,_,hN,hn⟩,hb⟩;have HB13:=Ht HB12 hb;have H1:=Hd hN;have N1:=Hd hn;clear hN hn;clear hb)
  | (go_at_call 59;(with_reducible refine (KN2.out _).mono ?_);rintro e w14 ⟨⟨a2,c2,rfl,_,hN,hn⟩,hb⟩;have HB14:=Ht HB13 hb;replace H1:=Hd ((H1.out.below hb (Nat.le_refl _)).mono hb.size);have H2:=Hd hN;have N2:=Hd hn;clear hN hn;clear hb)
  | (go_at_call 58;(with_reducible refine (KP3.out a1 a2 c1 c2 _ H1.out H2.out N1.out).mono ?_);rintro e w15 ⟨⟨a4,c4,rfl,_,hN,hn⟩,hb⟩;have HB15:=Ht HB14 hb;have H4:=Hd hN;have N4:=Hd hn;clear hN hn;clear hb)
  | (go_at_call 12;(with_reducible refine (KX3.out a4 c4 _ HB15.out H4.out).mono ?_);rintro e w16 ⟨⟨v,rfl,hr⟩,hb⟩;have HB16:=Ht HB15 hb;obtain ⟨aq,cq,rfl,hq,_⟩:=hr.is;have HQ:=Hd hq;clear hr hq;clear hb))
 go_wp2_with (go_at_call 14;(with_reducible refine (KS.out aq cq w16 HQ.out).mono ?_);rintro e w17 ⟨rfl,hb⟩;have HB17:=Hd (HB16.out.trans (((ba1 _ _).trans (hb.mono (ba1 _ _).size)).mono HB16.out.size));clear hb)
 go_ret
 exact ⟨rfl,HB17.out⟩
end Go.Proofs.YtkokdafkjjcgoaaGreatDoor
namespace Go.Proofs.YtkokdafkjjcgoaaGreatDoor
open Go.RowKit Go.Maps
def midF {α:Type} (g:α → α) (L:List α) (k:Nat):List α:=(L.take k).map g ++ L.drop k
theorem midF_at {α:Type} (g:α → α) (L:List α) (k j:Nat):(midF g L k)[j]? = (L[j]?).map fun x=>if j < k then g x else x:=by
 unfold midF
 rcases Nat.lt_or_ge j k with h | h
 ·rcases Nat.lt_or_ge j L.length with h2 | h2
  ·rw [List.getElem?_append_left (by simp;omega),List.getElem?_map,List.getElem?_take_of_lt h]
   simp [h]
  ·rw [List.getElem?_eq_none (by simp;omega),List.getElem?_eq_none h2]
   rfl
 ·have hf:(fun x=>if j < k then g x else x) = id:=by funext x;rw [if_neg (by omega)];rfl
  rw [hf,Option.map_id]
  rcases Nat.lt_or_ge k L.length with h2 | h2
  ·rw [List.getElem?_append_right (by simp;omega),List.getElem?_drop]
   simp only [List.length_map,List.length_take]
   rw [show k + (j - min k L.length) = j by omega]
   rfl
  ·rw [List.getElem?_eq_none (by simp;omega),List.getElem?_eq_none (by omega)]
   rfl
theorem midF_0 {α:Type} (g:α → α) (L:List α):midF g L 0 = L:=by simp [midF]
theorem midF_end {α:Type} (g:α → α) (L:List α):midF g L L.length = L.map g:=by simp [midF]
theorem midF_len {α:Type} (g:α → α) (L:List α) (k:Nat):(midF g L k).length = L.length:=by
 unfold midF
 simp
 omega
theorem midF_next {α:Type} (g:α → α) {L:List α} {k:Nat} {x:α} (h:L[k]? = some x):(midF g L k).set k (g x) = midF g L (k + 1):=by
 have hk:=(List.getElem?_eq_some_iff.1 h).1
 refine List.ext_getElem? fun j=>?_
 by_cases e:k = j
 ·subst e
  rw [List.getElem?_set_self (by rw [midF_len];exact hk),midF_at,h]
  simp
 ·rw [List.getElem?_set_ne e,midF_at,midF_at]
  rcases L[j]? with _ | y
  ·rfl
  ·simp only [Option.map_some,Option.some.injEq]
   rcases Nat.lt_or_ge j k with h1 | h1
   ·rw [if_pos h1,if_pos (by omega)]
   ·rw [if_neg (by omega),if_neg (by omega)]
def midT (T' T:List Nd) (k:Nat):List Nd:=T'.take k ++ T.drop k
theorem midT_at {T' T:List Nd} (hl:T'.length = T.length) (k j:Nat):(midT T' T k)[j]? = if j < k then T'[j]? else T[j]?:=by
 unfold midT
 rcases Nat.lt_or_ge j k with h | h
 ·rw [if_pos h]
  rcases Nat.lt_or_ge j T.length with h2 | h2
  ·rw [List.getElem?_append_left (by simp;omega),List.getElem?_take_of_lt h]
  ·rw [List.getElem?_eq_none (by simp;omega),List.getElem?_eq_none (by omega)]
 ·rw [if_neg (by omega)]
  rcases Nat.lt_or_ge k T.length with h2 | h2
  ·rw [List.getElem?_append_right (by simp;omega),List.getElem?_drop]
   simp only [List.length_take]
   rw [show k + (j - min k T'.length) = j by omega]
  ·rw [List.getElem?_eq_none (by simp;omega),List.getElem?_eq_none (by omega)]
theorem midT_len {T' T:List Nd} (hl:T'.length = T.length) (k:Nat):(midT T' T k).length = T.length:=by
 unfold midT
 simp
 omega
theorem midT_next {T' T:List Nd} (hl:T'.length = T.length) {k:Nat} {x:Nd} (h:T'[k]? = some x):(midT T' T k).set k x = midT T' T (k + 1):=by
 have hk:=(List.getElem?_eq_some_iff.1 h).1
 refine List.ext_getElem? fun j=>?_
 by_cases e:k = j
 ·subst e
  rw [List.getElem?_set_self (by rw [midT_len hl];omega),midT_at hl,if_pos (by omega),h]
 ·rw [List.getElem?_set_ne e,midT_at hl,midT_at hl]
  rcases Nat.lt_or_ge j k with h1 | h1
  ·rw [if_pos h1,if_pos (by omega)]
  ·rw [if_neg (by omega),if_neg (by omega)]
theorem midT_end {T' T:List Nd} (hl:T'.length = T.length):midT T' T T.length = T':=by
 unfold midT
 rw [List.take_of_length_le (by omega),List.drop_length,List.append_nil]
theorem at_is (at_:Int) {m:Nat} (h:0 < m) (hm:m ≤ 4200):∃ i:Nat,i < m ∧ wrap64 ((IntKind.u64.wrap at_).tmod (m:Int)) = (i:Int):=by
 have e:IntKind.u64.wrap at_ = at_ % 18446744073709551616:=by simp [IntKind.wrap,IntKind.bits,IntKind.signed]
 have h0:0 ≤ IntKind.u64.wrap at_:=by rw [e];omega
 refine ⟨((IntKind.u64.wrap at_) % (m:Int)).toNat,?_,?_⟩
 ·have h1:=Int.emod_lt_of_pos (IntKind.u64.wrap at_) (show (0:Int) < (m:Int) by omega)
  have h2:=Int.emod_nonneg (IntKind.u64.wrap at_) (show (m:Int) ≠ 0 by omega)
  omega
 ·have h1:=Int.emod_lt_of_pos (IntKind.u64.wrap at_) (show (0:Int) < (m:Int) by omega)
  have h2:=Int.emod_nonneg (IntKind.u64.wrap at_) (show (m:Int) ≠ 0 by omega)
  rw [Int.tmod_eq_emod_of_nonneg h0]
  unfold wrap64
  omega
end Go.Proofs.YtkokdafkjjcgoaaGreatDoor
