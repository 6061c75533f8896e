/- One more struct: the program. -/
import Derived.Test.YtkokdafkjjcgoaaGreatDoorMg16
import Derived.StillTailTactics
namespace Go.Proofs.YtkokdafkjjcgoaaGreatDoor
open Go.RowKit Go.Maps
def MemRow (w:World) (b off:Nat) (L:List (ByteArray × ByteArray)):Prop:=∀ i m,L[i]? = some m → w.cell? ⟨b,off + i * 2,none⟩ = some (.string m.1) ∧ w.cell? ⟨b,off + i * 2 + 1,none⟩ = some (.string m.2)
def IsMems (B:Nat) (w:World) (v:Value) (L:List (ByteArray × ByteArray)):Prop:=∃ a cap,v = .slice a L.length cap ∧ (L ≠ [] → ∃ b off,a = some ⟨b,off,none⟩ ∧ b < B ∧ MemRow w b off L)
theorem MemRow.below {B b off:Nat} {w w':World} {L:List (ByteArray × ByteArray)} (h:MemRow w b off L) (hb:Below B w w') (hB:b < B):MemRow w' b off L:=fun i m hi=>by
 rw [hb.cell hB,hb.cell hB]
 exact h i m hi
theorem IsMems.below {B B':Nat} {w w':World} {v:Value} {L:List (ByteArray × ByteArray)} (h:IsMems B w v L) (hb:Below B' w w') (hB:B ≤ B'):IsMems B w' v L:=by
 obtain ⟨a,cap,rfl,hr⟩:=h
 refine ⟨a,cap,rfl,fun hn=>?_⟩
 obtain ⟨b,off,rfl,hlt,hm⟩:=hr hn
 exact ⟨b,off,rfl,hlt,hm.below hb (by omega)⟩
def AddEnd (B b mb:Nat) (mv:List Value) (ms:Value) (K:List Kn) (x:Sr) (w:World) (e:Ending) (w':World):Prop:=
 Below B w w' ∧ ((∃ c,addK K x = .inl c ∧ e = .returned (.int .i64 c)) ∨ ∃ k lv sv av,addK K x = .inr k ∧ e = .returned (.int .i64 0) ∧ KnAt B w' b mb lv sv av (mv ++ [ms]) (K ++ [k]))
section
variable {B b mb:Nat} {lv sv av:Value} {mv:List Value} {K:List Kn}
theorem add_no {ms:Value} {x:Sr} {w w':World} {c:Int} (h:addK K x = .inl c) (hb:Below B w w'):AddEnd B b mb mv ms K x w (.returned (.int .i64 c)) w':=⟨hb,.inl ⟨c,h,rfl⟩⟩
theorem addK_form {x:Sr} (h:isNameB x.name = false):addK K x = .inl 2:=by unfold addK;rw [if_pos h]
theorem addK_twice {x:Sr} (h:isNameB x.name = true) (h2:(findK K x.name.data.toList).isSome = true):addK K x = .inl 6:=by unfold addK;rw [if_neg (by simp [h]),if_pos h2]
theorem addK_long {x:Sr} (h:isNameB x.name = true) (h2:(findK K x.name.data.toList).isSome = false) (h3:64 < x.mems.length):addK K x = .inl 3:=by unfold addK;rw [if_neg (by simp [h]),if_neg (by simp [h2]),if_pos h3]
theorem addK_none {x:Sr} (h:isNameB x.name = true) (h2:(findK K x.name.data.toList).isSome = false) (h3:x.mems = []):addK K x = .inl 5:=by unfold addK;rw [if_neg (by simp [h]),if_neg (by simp [h2]),if_neg (by simp [h3]),if_pos h3]
theorem addK_mems {x:Sr} (h:isNameB x.name = true) (h2:(findK K x.name.data.toList).isSome = false) (h3:¬ 64 < x.mems.length) (h4:¬ x.mems = []) {r:Int ⊕ (Nat × Nat)} (hr:memsK K x.mems [] 0 1 = r) :
 (∀ e,r = .inl e → addK K x = .inl e) ∧ ∀ n m,r = .inr (n,m) → addK K x = if 65536 < fitN n m then .inl 3 else .inr { x with size:=fitN n m,align:=m }:=by
 unfold addK
 rw [if_neg (by simp [h]),if_neg (by simp [h2]),if_neg h3,if_neg h4,hr]
 constructor
 ·rintro e rfl;rfl
 ·rintro n m rfl;rfl
theorem mem_form {m:ByteArray × ByteArray} {l:List (ByteArray × ByteArray)} {seen:List ByteArray} {n a:Nat} (h:isNameB m.1 = false):memsK K (m :: l) seen n a = .inl 2:=by rw [memsK,if_pos h]
theorem mem_twice {m:ByteArray × ByteArray} {l:List (ByteArray × ByteArray)} {seen:List ByteArray} {n a:Nat} (h:isNameB m.1 = true) (h2:Lib.containsS seen m.1 = true):memsK K (m :: l) seen n a = .inl 6:=by
 rw [memsK,if_neg (by simp [h]),if_pos h2]
theorem mem_check {m:ByteArray × ByteArray} {l:List (ByteArray × ByteArray)} {seen:List ByteArray} {n a:Nat} (h:isNameB m.1 = true) (h2:Lib.containsS seen m.1 = false) (h3:checkS K m.2 ≠ 0):memsK K (m :: l) seen n a = .inl (checkS K m.2):=by
 rw [memsK,if_neg (by simp [h]),if_neg (by simp [h2])]
 cases ht:tyS m.2 with
 | none=>rw [checkS_none ht]
 | some t=>rw [checkS_some ht] at h3 ⊢;simp only;rw [if_pos h3]
theorem mem_object {m:ByteArray × ByteArray} {l:List (ByteArray × ByteArray)} {seen:List ByteArray} {n a:Nat} {t:Ty} (h:isNameB m.1 = true) (h2:Lib.containsS seen m.1 = false) (ht:tyS m.2 = some t) (h3:checkS K m.2 = 0) (h4:objectT t = false):memsK K (m :: l) seen n a = .inl 5:=by
 rw [memsK,if_neg (by simp [h]),if_neg (by simp [h2]),ht]
 rw [checkS_some ht] at h3
 simp only
 rw [if_neg (by simp [h3]),if_pos h4]
theorem mem_next {m:ByteArray × ByteArray} {l:List (ByteArray × ByteArray)} {seen:List ByteArray} {n a:Nat} {t:Ty} (h:isNameB m.1 = true) (h2:Lib.containsS seen m.1 = false) (ht:tyS m.2 = some t) (h3:checkS K m.2 = 0) (h4:objectT t = true) :
 memsK K (m :: l) seen n a = memsK K l (seen ++ [m.1]) (fitN n (measT K t).2 + (measT K t).1) (max a (measT K t).2):=by
 rw [memsK,if_neg (by simp [h]),if_neg (by simp [h2]),ht]
 rw [checkS_some ht] at h3
 simp only
 rw [if_neg (by simp [h3]),if_neg (by simp [h4])]
structure AddInv (w1:World) (sm:Nat) (K:List Kn) (L:List (ByteArray × ByteArray)) (wy:World) (j n a:Nat):Prop where
 rest:memsK K L [] 0 1 = memsK K (L.drop j) ((L.take j).map Prod.fst) n a
 nb:n ≤ j * 65540
 ab:1 ≤ a ∧ a ≤ 4
 seen:MapF wy sm j (seenV ((L.take j).map Prod.fst))
 below:Below w1.heap.size w1 wy
theorem addInv_start {w1:World} {L:List (ByteArray × ByteArray)}:AddInv w1 w1.heap.size K L (w1.alloc (.map #[] 0)) 0 0 1:=
 ⟨rfl,by decide,⟨by decide,by decide⟩,mapF_nil.same fun s=>(seen_nil s).symm,(Below.refl _ _).alloc (Nat.le_refl _) _⟩
theorem drop_at {α:Type} (L:List α) (j:Nat) (h:j < L.length):L.drop j = L[j] :: L.drop (j + 1):=List.drop_eq_getElem_cons h
theorem take_at {α:Type} (L:List α) (j:Nat) (h:j < L.length):L.take (j + 1) = L.take j ++ [L[j]]:=by rw [List.take_add_one,List.getElem?_eq_getElem h];rfl
theorem name_short {s:ByteArray} (h:isNameB s = true):s.size ≤ maxLen:=by
 unfold isNameB at h
 simp only [Bool.and_eq_true,decide_eq_true_iff] at h
 have:=h.2.1
 unfold maxLen;omega
theorem seen_more {w3:World} {sm j:Nat} {seen:List ByteArray} {mn:ByteArray} (h:MapF w3 sm j (seenV seen)) (hj:j < 64) (hs:mn.size ≤ maxLen) :
 ∃ w4,(Instr.mapUpdate 212 (.map (some sm)) (.string mn) (.int .i64 1)).run Tryz.prog w3 = .ok () w4 ∧ MapF w4 sm (j + 1) (seenV (seen ++ [mn])) ∧ w3.mapTurned w4 sm:=by
 obtain ⟨w4,h1,h2,h3⟩:=h.store (by unfold maxLen;omega) hs (v:=1) (by decide)
 exact ⟨w4,h1,h2.same fun s=>seen_step seen mn s,h3⟩
theorem AddInv.next {w1 w3 w4 w6 wr:World} {sm j n a n' a':Nat} {L:List (ByteArray × ByteArray)} {m:ByteArray × ByteArray} (h:AddInv w1 sm K L wr j n a) (hsm:w1.heap.size = sm) (h13:Below wr.heap.size wr w3) (ht:w3.mapTurned w4 sm)
 (hm:MapF w4 sm (j + 1) (seenV ((L.take j).map Prod.fst ++ [m.1]))) (h46:Below w4.heap.size w4 w6) (hL:L.take (j + 1) = L.take j ++ [m]) (hr:memsK K L [] 0 1 = memsK K (L.drop (j + 1)) ((L.take j).map Prod.fst ++ [m.1]) n' a') (hn:n' ≤ n + 65540) (ha:1 ≤ a' ∧ a' ≤ 4) :
 AddInv w1 sm K L w6 (j + 1) n' a':=by
 have e:(L.take (j + 1)).map Prod.fst = (L.take j).map Prod.fst ++ [m.1]:=by rw [hL];simp
 refine ⟨by rw [e];exact hr,by have:=h.nb;omega,ha,by rw [e];exact hm.below h46,?_⟩
 have h1:Below w1.heap.size w1 w3:=h.below.trans (h13.mono h.below.size)
 have h2:Below w1.heap.size w1 w4:=below_turned h1 (Nat.le_refl _) (by omega) ht
 exact h2.trans (h46.mono h2.size)
theorem max_cast (a b:Nat):Value.int .i64 (max (a:Int) (b:Int)) = .int .i64 ((max a b:Nat):Int):=by congr 1;omega
theorem own_slice {w:World} {base:Nat} {e:TypeId} {size:Nat} {v:Value} {n:Nat} {xs:List Value} (h:w.ownsRow base e size v n xs):∃ a cap,v = .slice a n cap:=by
 rcases h.2 with ⟨rfl,rfl⟩ | ⟨g,cap,cur,rfl,_⟩
 ·exact ⟨_,_,rfl⟩
 ·exact ⟨_,_,rfl⟩
theorem len_wf {n:Nat} (h:n < 64):(Lit.int .i64 (n:Int)).wf = true:=by
 have h1:IntKind.i64.min = -9223372036854775808:=by decide
 have h2:IntKind.i64.max = 9223372036854775807:=by decide
 rw [Lit.wf,h1,h2,Bool.and_eq_true,decide_eq_true_iff,decide_eq_true_iff]
 omega
theorem info_struct:(Tryz.prog.info? 114).map (fun i=>(i.zero,i.size,i.bytes)) = some (some (.agg #[.string ⟨#[]⟩,.slice none 0 0]),2,40):=by kernel_rfl
theorem info_int:(Tryz.prog.info? 3).map (fun i=>(i.zero,i.size,i.bytes)) = some (some (.int .i64 0),1,8):=by kernel_rfl
theorem own_grew {v:Value} {g H n c k:Nat} (h:v.ownBlock = some g ∨ g = H) (hk:(Value.slice (some ⟨g,0,none⟩) n c).ownBlock = some k):v.ownBlock = some k ∨ k = H:=by
 simp only [Value.ownBlock,Option.some.injEq] at hk
 subst hk;exact h
theorem add_yes {lv sv av:Value} {ms:Value} {x:Sr} {w w':World} {k:Kn} (h:addK K x = .inr k) (hb:Below B w w')
 (hk:KnR B w' b mb lv sv av lv sv av (K.length + 1) (lookV (K ++ [k])) (K.length + 1) (((K.zip mv).flatMap fun q=>[.string q.1.name,q.2]) ++ [.string k.name,ms]) (K.length + 1) ((K.map fun k=>.int .i64 (k.size:Int)) ++ [.int .i64 (k.size:Int)]) (K.length + 1) ((K.map fun k=>.int .i64 (k.align:Int)) ++ [.int .i64 (k.align:Int)]))
 (hm:mv.length = K.length):AddEnd B b mb mv ms K x w (.returned (.int .i64 0)) w':=by
 refine ⟨hb,.inr ⟨k,lv,sv,av,h,rfl,KnR.toAt ?_ (by simp [hm])⟩⟩
 have e1:(K ++ [k]).length = K.length + 1:=by simp
 have e2:((K ++ [k]).zip (mv ++ [ms])) = K.zip mv ++ [(k,ms)]:=by rw [List.zip_append hm.symm];rfl
 rw [e1,e2,List.map_append,List.map_append,List.flatMap_append]
 exact hk
theorem box_at {w0 w1:World} {k n:Nat} {o:Obj} (h:w0.heap[k]? = some o) (hb:Below (w0.drewN n).heap.size (w0.drewN n) w1):w1.heap[k]? = some o:=by
 rw [hb.block k (lt_of_heap h)];exact h
set_option maxRecDepth 100000 in
set_option maxHeartbeats 20000000 in
theorem add_ok (x:Sr) (ms:Value) (w:World) (hE:TE w) (hK:KnAt B w b mb lv sv av mv K) (hF:FitK K) (h64:K.length < 64) (hx:x.name.size ≤ maxLen) (hm:IsMems w.heap.size w ms x.mems) :
 Calls Tryz.prog 166 #[.pointer (some ⟨b,0,none⟩),.agg #[.string x.name,ms]] w fun e w'=>AddEnd B b mb mv ms K x w e w':=by
 have hB:B ≤ w.heap.size:=Nat.le_of_lt (Nat.lt_of_le_of_lt hK.base.1 (lt_of_heap hK.blk))
 obtain ⟨al,cl,rfl⟩:=own_slice hK.list
 have HE:=Hd hE
 have HK:=Hd hK
 have HF:=Hd hF
 obtain ⟨a,cap,rfl,hrow⟩:=hm
 have HM:=Hd hrow
 have HN:=Hd fun w1 (h:Below w.heap.size w w1)=>lexIsName_any x.name w1 ((HE.out.below h).keys)
 have hw0:Below w.heap.size w (w.alloc (.cells #[.string x.name,.slice a x.mems.length cap] 114)):=(Below.refl _ _).alloc (Nat.le_refl _) _
 have hK0:=hK.below hw0
 have hx0:(w.alloc (.cells #[.string x.name,.slice a x.mems.length cap] 114)).heap[w.heap.size]? = some (.cells #[.string x.name,.slice a x.mems.length cap] 114 (0,0)):=heap_alloc_new _ _
 obtain ⟨⟨x0,x1⟩,fx⟩:=two_block hx0
 obtain ⟨_,c1,_,_⟩:=hK0.cells
 have hlk:∀ m,(Instr.lookup 212 (.map (some mb)) (.string x.name) true).run Tryz.prog ((w.alloc (.cells #[.string x.name,.slice a x.mems.length cap] 114)).drewN m) = .ok (.tuple #[.int .i64 (lookV K x.name.data.toList).1,.bool (lookV K x.name.data.toList).2]) ((w.alloc (.cells #[.string x.name,.slice a x.mems.length cap] 114)).drewN m):=fun m=>(hK0.names.drewN m).look hx
 have hmx:(w.alloc (.cells #[.string x.name,.slice a x.mems.length cap] 114)).heap.size = w.heap.size + 1:=by simp
 have HX0:=Hd hx0
 have HMX:=Hd hmx
 have hl2:=lookV_two K x.name.data.toList
 clear hE hK hF hrow hK0 fx hx0 hmx
 have hmm:=@run_makeMap Tryz.prog
 go_enter Tryz.func166,Tryz.ntmps166
 go_wp2_with fail
 generalize w.alloc (.cells #[.string x.name,.slice a x.mems.length cap] 114) = w0 at *
 have HB0:=Hd hw0
 clear hw0
 rcases hlv:lookV K x.name.data.toList with ⟨li,lf⟩
 rw [hlv] at hlk hl2
 have HL2:=Hd hl2
 clear hlv hl2
 go_quiet (fail)
 rcases hnm:isNameB x.name with _ | _
 ·rw [hnm] at HN
  have HN1:=Hd (HN.out _ (blw_drewN HB0.out nq))
  go_wp2_with (go_at_call 124;(with_reducible refine HN1.out.mono ?_);rintro e w1 ⟨rfl,hb1⟩)
  go_wp2_with fail
  go_ret
  exact add_no (addK_form hnm) (((blw_drewN HB0.out _).mono hB).trans (hb1.mono (by have:=HMX.out;simp;omega)))
 rw [hnm] at HN
 cases lf with
 | true=>
   have HN1:=Hd (HN.out _ (blw_drewN HB0.out nq))
   go_wp2_with (go_at_call 124;(with_reducible refine HN1.out.mono ?_);rintro e w1 ⟨rfl,hb1⟩)
   go_wp2_with fail
   go_ret
   exact add_no (addK_twice hnm HL2.out.symm) (((blw_drewN HB0.out _).mono hB).trans (hb1.mono (by have:=HMX.out;simp;omega)))
 | false=>
 have HN1:=Hd (HN.out _ (blw_drewN HB0.out nq))
 have hbw:∀ w1,Below (w0.drewN nq).heap.size (w0.drewN nq) w1 → Below w.heap.size w w1:=fun w1 h=>(blw_drewN HB0.out nq).trans (h.mono (by have:=HMX.out;simp;omega))
 have HBW:=Hd hbw
 clear hbw
 by_cases h64':64 < x.mems.length
 ·have hfin:=Hd (addK_long (K:=K) hnm HL2.out.symm h64')
  have t1:(64:Int) < x.mems.length:=by omega
  clear h64' hnm
  go_wp2_with (go_at_call 124;(with_reducible refine HN1.out.mono ?_);rintro e w1 ⟨rfl,hb1⟩;have hx1:=box_at HX0.out hb1;obtain ⟨⟨y0,y1⟩,_⟩:=two_block hx1;have HX1:=Hd hx1;have hz1:=lt_of_heap hx1;have HBb:=Hd hb1;clear hx1 hb1)
  go_ret
  exact add_no hfin.out ((HBW.out _ HBb.out).mono hB)
 have t1:(x.mems.length:Int) ≤ 64:=by omega
 by_cases h0':x.mems.length = 0
 ·have hfin:=Hd (addK_none (K:=K) hnm HL2.out.symm (List.eq_nil_of_length_eq_zero h0'))
  have t2:((x.mems.length:Int) == 0) = true:=by rw [beq_iff_eq];omega
  clear h64' hnm h0'
  go_wp2_with (go_at_call 124;(with_reducible refine HN1.out.mono ?_);rintro e w1 ⟨rfl,hb1⟩;have hx1:=box_at HX0.out hb1;obtain ⟨⟨y0,y1⟩,_⟩:=two_block hx1;have HX1:=Hd hx1;have hz1:=lt_of_heap hx1;have HBb:=Hd hb1;clear hx1 hb1)
  go_ret
  exact add_no hfin.out ((HBW.out _ HBb.out).mono hB)
 have t2:((x.mems.length:Int) == 0) = false:=by rw [beq_eq_false_iff_ne];omega
 have HAM:=Hd fun r (hr:memsK K x.mems [] 0 1 = r)=>addK_mems (K:=K) hnm HL2.out.symm h64' (fun e=>h0' (by rw [e];rfl)) hr
 obtain ⟨bb,off,ha,hbl,hrow⟩:=HM.out (fun e=>h0' (by rw [e];rfl))
 subst ha
 have HR:=Hd hrow
 clear h64' hnm h0' hrow
 go_wp2_with (go_at_call 124;(with_reducible refine HN1.out.mono ?_);rintro e w1 ⟨rfl,hb1⟩;have hx1:=box_at HX0.out hb1;obtain ⟨⟨y0,y1⟩,_⟩:=two_block hx1;have HX1:=Hd hx1;have hz1:=lt_of_heap hx1;have HBb:=Hd hb1;clear hx1 hb1)
 generalize hsm:w1.heap.size = sm
 go_loopg [8,9,46] x.mems.length (fun g v8 v9 v46 wy=>∃ j n m:Nat,j ≤ x.mems.length ∧ j + g = x.mems.length ∧ v8 = .int .i64 (n:Int) ∧ v9 = .int .i64 (m:Int) ∧ v46 = .int .i64 (j:Int) ∧ Hid (AddInv w1 sm K x.mems wy j n m))
 case atStart=>exact ⟨0,0,1,by omega,by omega,rfl,rfl,rfl,by subst hsm;exact addInv_start⟩
 case round=>
  obtain ⟨j,n,m,hj,hjg,rfl,rfl,rfl,HI⟩:=hrel
  have hbr:Below w.heap.size w wr:=(HBW.out _ HBb.out).trans (HI.out.below.mono (Nat.le_of_lt hz1))
  have HBr:=Hd hbr
  have hzr:sm ≤ wr.heap.size:=by rw [← hsm];exact HI.out.below.size
  by_cases hlt:j < x.mems.length
  ·obtain ⟨e1,e2⟩:=HR.out j _ (List.getElem?_eq_getElem hlt)
   rw [← hbr.cell hbl] at e1 e2
   have hrest:=HI.out.rest
   rw [drop_at _ j hlt] at hrest
   have hnext:=take_at x.mems j hlt
   generalize x.mems[j]'hlt = mj at *
   obtain ⟨mn,mt⟩:=mj
   simp only at e1 e2
   have HRest:=Hd hrest
   have HNext:=Hd hnext
   have HNm:=Hd fun w3 (h:Below w.heap.size w w3)=>lexIsName_any mn w3 ((HE.out.below h).keys)
   clear hbr hrest hnext
   go_upto_region 15 with fail
   have hm2:(wr.alloc (.cells #[.string mn,.string mt] 140)).heap[wr.heap.size]? = some (.cells #[.string mn,.string mt] 140 (0,0)):=heap_alloc_new _ _
   have hb2:Below wr.heap.size wr (wr.alloc (.cells #[.string mn,.string mt] 140)):=(Below.refl _ _).alloc (Nat.le_refl _) _
   generalize wr.alloc (.cells #[.string mn,.string mt] 140) = w2 at *
   have HM2:=Hd hm2
   have HB2:=Hd hb2
   have hz2:=lt_of_heap hm2
   obtain ⟨⟨m0,m1⟩,_⟩:=two_block hm2
   have HN2:=Hd (HNm.out _ (HBr.out.trans (hb2.mono HBr.out.size)))
   clear hm2 hb2 e1 e2
   rcases hnm:isNameB mn with _ | _
   ·rw [hnm] at HN2
    have hfin:=Hd ((HAM.out _ HRest.out).1 _ (mem_form hnm))
    clear hnm
    go_wp2_with (go_at_call 124;(with_reducible refine HN2.out.mono ?_);rintro e w3 ⟨rfl,hb3⟩;have HB3:=Hd hb3;clear hb3)
    go_ret
    exact add_no hfin.out ((((HBr.out.trans (HB2.out.mono HBr.out.size)).mono hB)).trans (HB3.out.mono (by omega)))
   have hs31:=name_short hnm
   have hj64:j < 64:=by omega
   rw [hnm] at HN2
   rcases hse:Lib.containsS ((x.mems.take j).map Prod.fst) mn with _ | _
   ·have hlook:=fun w3 (h:Below wr.heap.size wr w3)=>by
     have:=(HI.out.seen.below h).look hs31
     rw [seen_at,hse,if_neg (by decide)] at this
     exact this
    have hmore:=fun w3 (h:Below wr.heap.size wr w3)=>seen_more (HI.out.seen.below h) hj64 hs31
    have hsmr:sm < wr.heap.size:=MapF.lt HI.out.seen
    have HLook:=Hd hlook
    have HMore:=Hd hmore
    clear hlook hmore
    go_wp2_with (go_at_call 124;(with_reducible refine HN2.out.mono ?_);rintro e w3 ⟨rfl,hb3⟩;have hm3:=(hb3.block _ hz2).trans HM2.out;obtain ⟨⟨z0,z1⟩,_⟩:=two_block hm3;have h13:=HB2.out.trans (hb3.mono HB2.out.size);have hl3:=HLook.out w3 h13;obtain ⟨w4,hup,hm4,ht4⟩:=HMore.out w3 h13;have hx4:=(ht4.grown.block _ (lt_of_heap hm3) (by simp only [ne_eq,Option.some.injEq];omega)).trans hm3;obtain ⟨⟨q0,q1⟩,_⟩:=two_block hx4;have H13:=Hd h13;have HM4:=Hd hm4;have HT4:=Hd ht4;have HX4:=Hd hx4;clear hb3 hm3 h13 hm4 ht4 hx4)
    have HB4:=Hd (below_turned (HBr.out.trans (H13.out.mono HBr.out.size)) (Nat.le_refl _) (by omega) HT4.out)
    have HC4:=Hd (check_ok mt w4 (HE.out.below HB4.out) (HK.out.below HB4.out) HF.out)
    clear hup hl3 z0 z1
    by_cases hc:checkS K mt = 0
    ·obtain ⟨t,ht⟩:∃ t,tyS mt = some t:=by
      cases ht:tyS mt with
      | none=>rw [checkS_none ht] at hc;simp at hc
      | some t=>exact ⟨t,rfl⟩
     obtain ⟨hmt,hrt,hlt'⟩:=tyS_some.1 ht
     have HO:=Hd fun w5=>object_ok t hrt w5
     rw [← hmt] at HO
     rcases hob:objectT t with _ | _
     ·rw [hob] at HO
      have hfin:=Hd ((HAM.out _ HRest.out).1 _ (mem_object hnm hse ht hc hob))
      rw [hc] at HC4
      clear hnm hse hmt hrt hlt' ht hc hob
      go_wp2_with (go_at_call 170;(with_reducible refine HC4.out.mono ?_);rintro e w5 ⟨rfl,hb5⟩;have hx5:=(hb5.block _ (lt_of_heap HX4.out)).trans HX4.out;obtain ⟨⟨p0,p1⟩,_⟩:=two_block hx5;have HX5:=Hd hx5;have HB5:=Hd hb5;clear hb5 hx5)
      go_wp2_with (go_at_call 198;(with_reducible refine (HO.out _).mono ?_);rintro e w6 ⟨rfl,rfl⟩)
      go_ret
      exact add_no hfin.out ((HB4.out.mono hB).trans (HB5.out.mono (Nat.le_trans hB HB4.out.size)))
     ·rw [hob] at HO
      have hct:=hc
      rw [checkS_some ht] at hct
      obtain ⟨hsh,hth,_⟩:=checkT_zero hct
      have HMs:=Hd fun w5 (h:Below w4.heap.size w4 w5)=>measure_ok (B:=B) (b:=b) (mb:=mb) (lv:=.slice al K.length cl) (sv:=sv) (av:=av) (mv:=mv) t w5 hrt hlt' hsh hth ((HE.out.below HB4.out).below h) ((HK.out.below HB4.out).below h) HF.out
      have hms:=meas_bd HF.out t hct
      have hal:=meas_al HF.out t
      rw [capM_id hms,← hmt] at HMs
      have HMN:=Hd (mem_next (K:=K) (m:=(mn,mt)) (l:=x.mems.drop (j + 1)) (n:=n) (a:=m) hnm hse ht hc hob)
      rw [hc] at HC4
      generalize measT K t = p at *
      obtain ⟨ps,pa⟩:=p
      simp only at hms hal HMN
      unfold measV at HMs
      simp only at HMs
      have hnb:=HI.out.nb
      have hnn:n ≤ 8388608:=by omega
      have HFt:=Hd fun w5=>fit_ok n pa hnn hal.1 hal.2 w5
      have hfb:=fit_bd n pa hal.1 hal.2
      generalize fitN n pa = q at *
      clear hnm hse hmt hrt hlt' ht hc hob hct hsh hth
      go_wp2_with (go_at_call 170;(with_reducible refine HC4.out.mono ?_);rintro e w5 ⟨rfl,hb5⟩;have hx5:=(hb5.block _ (lt_of_heap HX4.out)).trans HX4.out;obtain ⟨⟨p0,p1⟩,_⟩:=two_block hx5;have HX5:=Hd hx5;have HB5:=Hd hb5;have HM5:=Hd (HMs.out _ hb5);clear hb5 hx5)
      go_wp2_with (go_at_call 198;(with_reducible refine (HO.out _).mono ?_);rintro e w6 ⟨rfl,rfl⟩)
      go_wp2_with (go_at_call 199;(with_reducible refine HM5.out.mono ?_);rintro e w6 ⟨rfl,hb6⟩;have HB6:=Hd hb6;clear hb6)
      go_wp2_with (go_at_call 200;(with_reducible refine (HFt.out _).mono ?_);rintro e w7 ⟨rfl,rfl⟩)
      go_roundg (x.mems.length - (j + 1))
      case measure=>omega
      case rel=>exact ⟨j + 1,q + ps,max m pa,by omega,by omega,by rw [Int.natCast_add],by rw [max_cast],by rw [Int.natCast_add];rfl,HI.out.next hsm H13.out HT4.out HM4.out (HB5.out.trans (HB6.out.mono HB5.out.size)) HNext.out (HRest.out.trans HMN.out) (by omega) (by have:=HI.out.ab;omega)⟩
    ·have hfin:=Hd ((HAM.out _ HRest.out).1 _ (mem_check hnm hse hc))
     have t3:(checkS K mt != 0) = true:=by simp [hc]
     clear hnm hse hc
     generalize checkS K mt = c at *
     go_wp2_with (go_at_call 170;(with_reducible refine HC4.out.mono ?_);rintro e w5 ⟨rfl,hb5⟩;have HB5:=Hd hb5;clear hb5)
     go_ret
     exact add_no hfin.out ((HB4.out.mono hB).trans (HB5.out.mono (Nat.le_trans hB HB4.out.size)))
   ·have hlook:=fun w3 (h:Below wr.heap.size wr w3)=>by
     have:=(HI.out.seen.below h).look hs31
     rw [seen_at,hse,if_pos rfl] at this
     exact this
    have HLook:=Hd hlook
    have hfin:=Hd ((HAM.out _ HRest.out).1 _ (mem_twice hnm hse))
    clear hnm hse hlook
    go_wp2_with (go_at_call 124;(with_reducible refine HN2.out.mono ?_);rintro e w3 ⟨rfl,hb3⟩;have hm3:=(hb3.block _ hz2).trans HM2.out;obtain ⟨⟨z0,z1⟩,_⟩:=two_block hm3;have hl3:=HLook.out w3 (HB2.out.trans (hb3.mono HB2.out.size));have HB3:=Hd hb3;clear hb3 hm3)
    go_ret
    exact add_no hfin.out ((((HBr.out.trans (HB2.out.mono HBr.out.size)).mono hB)).trans (HB3.out.mono (by omega)))
  ·-- END
   obtain rfl:j = x.mems.length:=by omega
   have t3:(x.mems.length:Int) ≤ (x.mems.length:Int):=Int.le_refl _
   have hrest:=HI.out.rest
   rw [List.drop_length,memsK] at hrest
   have hend:=(HAM.out _ hrest).2 n m rfl
   have hnb:=HI.out.nb
   have hab:=HI.out.ab
   have hnn:n ≤ 8388608:=by omega
   have HFt:=Hd fun w5=>fit_ok n m hnn hab.1 hab.2 w5
   have hfb:=fit_bd n m hab.1 hab.2
   generalize fitN n m = q at *
   have hxr:wr.heap[w.heap.size]? = some (.cells #[.string x.name,.slice (some ⟨bb,off,none⟩) x.mems.length cap] 114 (0,0)):=(HI.out.below.block _ hz1).trans HX1.out
   have HXr:=Hd hxr
   have hzr1:w.heap.size < wr.heap.size:=lt_of_heap hxr
   have HKr:=Hd ((HK.out.below hbr).toR)
   clear hbr hxr hrest
   by_cases hq:65536 < q
   ·have hfin:=Hd (hend.trans (if_pos hq))
    have t4:(65536:Int) < q:=by omega
    clear hend hq
    go_wp2_with (go_at_call 200;(with_reducible refine (HFt.out _).mono ?_);rintro e w7 ⟨rfl,hw7⟩;subst w7)
    go_ret
    exact add_no hfin.out (HBr.out.mono hB)
   ·have hfin:=Hd (hend.trans (if_neg hq))
    have t4:(q:Int) ≤ 65536:=by omega
    clear hend hq
    go_upto_region 31 with (go_at_call 200;(with_reducible refine (HFt.out _).mono ?_);rintro e w7 ⟨rfl,hw7⟩;subst w7)
    have hk9:=HKr.out.below ((Below.refl _ wr).drew)
    have hno:(findK K x.name.data.toList).isSome = false:=HL2.out.symm
    obtain ⟨w10,hup,hm10,ht10⟩:=hk9.names.store (by unfold maxLen;omega) hx (v:=(K.length:Int)) (len_wf h64)
    have HM10:=Hd hm10
    have HT10:=Hd ht10
    obtain ⟨⟨k0,k1,_,_⟩,_⟩:=hk9.cells
    obtain ⟨⟨y0,y1⟩,_⟩:=two_block HXr.out
    clear hm10 ht10 hk9
    go_still_tail 11,(by kernel_rfl)
    change wpList _ _ _ _ _ wr.drew
    have hk10:=(HKr.out.below ((Below.refl _ wr).drew)).turned HT10.out (HM10.out.same fun s=>(lookV_snoc K (⟨x,q,m⟩:Kn) hno s).symm)
    have HB10:=Hd (below_turned ((HBr.out.mono hB).drew) hB HK.out.base.2.1 HT10.out)
    have hx10:=(HT10.out.grown.block _ (by simpa using hzr1) (by have:=HK.out.toR.mlt;simp only [ne_eq,Option.some.injEq];omega)).trans HXr.out
    clear y0 y1 k0 k1
    have HK10:=Hd hk10
    go_upto_region 32 with fail
    clear hup
    go_cut [] (fun wx=>∃ lv',Hid (KnR B wx b mb lv' sv av lv' sv av (K.length + 1) (lookV (K ++ [⟨x,q,m⟩])) (K.length + 1) (((K.zip mv).flatMap fun q=>[.string q.1.name,q.2]) ++ [.string x.name,.slice (some ⟨bb,off,none⟩) x.mems.length cap]) K.length (K.map fun k=>.int .i64 (k.size:Int)) K.length (K.map fun k=>.int .i64 (k.align:Int))) ∧ Hid (Below B w wx))
    case first=>
     obtain ⟨⟨k0,k1,k2,k3⟩,_⟩:=HK10.out.cells
     obtain ⟨⟨y0,y1⟩,_⟩:=two_block hx10
     have hz10:=lt_of_heap hx10
     have hbz:=HK10.out.lt
     have hB10:=HB10.out.size
     have hbig:Below w10.heap.size w10 ((w10.alloc (.cells #[.string x.name,.slice (some ⟨bb,off,none⟩) x.mems.length cap] 114)).drew):=((Below.refl _ _).alloc (Nat.le_refl _) _).drew
     have HBig:=Hd hbig
     obtain ⟨i0,hi,hz0,hz1',hz2'⟩:=info_parts info_struct
     have HIn:=Hd (And.intro hi (And.intro hz0 (And.intro hz1' hz2')))
     clear hi hz0 hz1' hz2' hbig hx10 hk10
     go_region_law ((refine step_append_lies _ (by rfl) _ _ _ (by rfl) B 114 i0 _ 2 40 Tryz.underlying61 HIn.out.1 HIn.out.2.1 HIn.out.2.2.1 HIn.out.2.2.2 rfl (by omega) (.slice al K.length cl) K.length ((K.zip mv).flatMap fun q=>[.string q.1.name,q.2]) (by rfl) (HK10.out.list.belowed HBig.out) ⟨w10.heap.size,0,none⟩ 1 1 [.string x.name,.slice (some ⟨bb,off,none⟩) x.mems.length cap] (by rfl) (by rfl) (World.news_of_block (cs:=#[.string x.name,.slice (some ⟨bb,off,none⟩) x.mems.length cap]) (t:=114) (fr:=(0,0)) (heap_alloc_new w10 _)) (by simp [Value.oneCell']) (by omega) (by unfold maxLen;omega) (by omega) (by simp;omega) (w10.heap.size + 1) (by simp) ?_;intro gg cp w11 hown hgrow hat hlt11;have hk11:=(HK10.out.below HBig.out).grewL hgrow hown (fun k hk=>(own_grew hat hk).imp id (fun e=>e.trans (by simp)));have j0:=hk11.cells.1.1;have jf:=hk11.cells.2 0))
     all_goals
      have HK11:=Hd (hk11.put 0 (Value.slice (some ⟨gg,0,none⟩) (K.length + 1) cp) rfl)
      have HB11:=Hd ((((HB10.out.trans (HBig.out.mono (by have:=HK10.out.base.1;omega))).grown hgrow (by have:=HBig.out.size;omega) (fun k hk=>(HK10.out.list.lt k hk).1))).setCell (p:=⟨b,0,none⟩) HK10.out.base.1 (Value.slice (some ⟨gg,0,none⟩) (K.length + 1) cp))
      clear hk11 hown hgrow hat hlt11 j0 jf
      go_wp2_with fail
      go_meet
      exact ⟨_,HK11,HB11⟩
    case rest=>
     obtain ⟨lv',HK12,HB12⟩:=hcut
     go_upto_region 33 with fail
     refine wp_region_any (by kernel_rfl) ?_
     change wpAny _ _ _ _ _ _ _ (World.drew _)
     have hk13:=HK12.out.below ((Below.refl _ wc).drew)
     have hb13:=HB12.out.drew
     generalize wc.drew = w13 at *
     obtain ⟨⟨_,_,k2,k3⟩,_⟩:=hk13.cells
     have HSV:=Hd fun k (hk:sv.ownBlock = some k)=>(hk13.sizes.lt k hk).2
     have hle13:w13.heap.size ≤ w13.heap.size:=Nat.le_refl _
     have hBle:B ≤ w13.heap.size:=Nat.le_trans hk13.base.1 (Nat.le_of_lt hk13.lt)
     obtain ⟨i1,hi,hz0,hz1',hz2'⟩:=info_parts info_int
     have HIi:=Hd (And.intro hi (And.intro hz0 (And.intro hz1' hz2')))
     clear hi hz0 hz1' hz2'
     have hmvl:=HK.out.mems
     have HK13:=Hd hk13
     have HB13:=Hd hb13
     clear hk13 hb13
     refine wpAny_take (i:=0) (v:=.pointer (some ⟨b,0,none⟩)) rfl (by kernel_rfl) (by kernel_rfl) (by kernel_rfl) (fun _ _ _ h=>h) (Or.inl ⟨by rfl,fun w=>by go_simp⟩) ?_
     refine wpAny_take (i:=1) (v:=.pointer (some ⟨b,0,none⟩)) rfl (by kernel_rfl) (by kernel_rfl) (by kernel_rfl) (fun _ _ _ h=>h) (Or.inl ⟨by rfl,fun w=>by go_simp⟩) ?_
     refine wpAny_take (i:=2) (v:=.pointer (some ⟨b,0,none⟩)) rfl (by kernel_rfl) (by kernel_rfl) (by kernel_rfl) (fun _ _ _ h=>h) (Or.inl ⟨by rfl,fun w=>by go_simp⟩) ?_
     refine wpAny_take (i:=3) (v:=.pointer (some ⟨b,0,none⟩)) rfl (by kernel_rfl) (by kernel_rfl) (by kernel_rfl) (fun _ _ _ h=>h) (Or.inl ⟨by rfl,fun w=>by go_simp⟩) ?_
     refine wpAny_take (i:=4) (v:=.pointer (some ⟨b,2,none⟩)) rfl (by kernel_rfl) (by kernel_rfl) (by kernel_rfl) (fun _ _ _ h=>h) (Or.inl ⟨by rfl,fun w=>by go_simp⟩) ?_
     refine wpAny_take (i:=6) (v:=.int .i64 (n:Int)) rfl (by kernel_rfl) (by kernel_rfl) (by kernel_rfl) (fun _ _ _ h=>h) (Or.inl ⟨by rfl,fun w=>by go_simp⟩) ?_
     refine wpAny_take (i:=7) (v:=.int .i64 (m:Int)) rfl (by kernel_rfl) (by kernel_rfl) (by kernel_rfl) (fun _ _ _ h=>h) (Or.inl ⟨by rfl,fun w=>by go_simp⟩) ?_
     refine wpAny_take (i:=11) (v:=.pointer (some ⟨b,0,none⟩)) rfl (by kernel_rfl) (by kernel_rfl) (by kernel_rfl) (fun _ _ _ h=>h) (Or.inl ⟨by rfl,fun w=>by go_simp⟩) ?_
     refine wpAny_take (i:=12) (v:=.pointer (some ⟨b,0,none⟩)) rfl (by kernel_rfl) (by kernel_rfl) (by kernel_rfl) (fun _ _ _ h=>h) (Or.inl ⟨by rfl,fun w=>by go_simp⟩) ?_
     refine wpAny_take (i:=13) (v:=.pointer (some ⟨b,3,none⟩)) rfl (by kernel_rfl) (by kernel_rfl) (by kernel_rfl) (fun _ _ _ h=>h) (Or.inl ⟨by rfl,fun w=>by go_simp⟩) ?_
     refine wpAny_take (i:=15) (v:=.int .i64 (m:Int)) rfl (by kernel_rfl) (by kernel_rfl) (by kernel_rfl) (fun _ _ _ h=>h) (Or.inl ⟨by rfl,fun w=>by go_simp⟩) ?_
     refine wpAny_of_T (S:=fun w'=>w'.cell? ⟨b,2,none⟩ = some sv ∧ w'.cell? ⟨b,3,none⟩ = some av) (T:=[20,23].contains) _ _ _ _ ?_
     refine wpAnyT_take (i:=5) (v:=sv) rfl (by kernel_rfl) (by kernel_rfl) (by kernel_rfl) (by kernel_rfl) (by kernel_rfl) (fun _ _ _ h=>h) ⟨k2,k3⟩ (Or.inl ⟨by rfl,?_⟩) ?_
     ·intro w hS
      have s2:=hS.1
      clear hS
      go_simp
      exact ⟨rfl,rfl⟩
     refine wpAnyT_take (i:=14) (v:=av) rfl (by kernel_rfl) (by kernel_rfl) (by kernel_rfl) (by kernel_rfl) (by kernel_rfl) (fun _ _ _ h=>h) ⟨k2,k3⟩ (Or.inl ⟨by rfl,?_⟩) ?_
     ·intro w hS
      have s3:=hS.2
      clear hS
      go_simp
      exact ⟨rfl,rfl⟩
     refine wpAnyT_take (i:=8) (v:=.int .i64 (q:Int)) rfl (by kernel_rfl) (by kernel_rfl) (by kernel_rfl) (by kernel_rfl) (by kernel_rfl) (fun _ _ _ h=>h) ⟨k2,k3⟩ (Or.inl ⟨by rfl,?_⟩) ?_
     ·intro w hS
      clear hS
      go_simp
      exact ⟨rfl,HFt.out w⟩
     -- ORDERS
     refine wpAnyT_two (i:=9) (j:=16) (by kernel_rfl) ?ca ?cb
     case' ca=>
      refine wpOp_keep rfl (by rfl) (fun K' hK'=>?_)
      go_simp
      have hn1:(w13.alloc (.cells #[.int .i64 (q:Int)] 3)).heap[w13.heap.size]? = some (.cells #[.int .i64 (q:Int)] 3 (0,0)):=heap_alloc_new _ _
      have hb1:Below w13.heap.size w13 (w13.alloc (.cells #[.int .i64 (q:Int)] 3)):=(Below.refl _ _).alloc (Nat.le_refl _) _
      have hk1:=HK13.out.below hb1
      have hle1:w13.heap.size < (w13.alloc (.cells #[.int .i64 (q:Int)] 3)).heap.size:=lt_of_heap hn1
      have HLe1:=Hd (show w13.heap.size ≤ w13.heap.size from hle13)
      have HN9_1:=Hd hn1
      have HK_1:=Hd hk1
      have HZ_1:=Hd (show w13.heap.size ≤ (w13.alloc (.cells #[.int .i64 (q:Int)] 3)).heap.size from Nat.le_trans HLe1.out (Nat.le_of_lt hle1))
      clear hn1
      generalize w13.alloc (.cells #[.int .i64 (q:Int)] 3) = w9_1 at *
      have hb1':=Hd (HB13.out.trans (hb1.mono (Nat.le_trans hBle (hle13))))
      refine hK' _ _ ⟨hk1.cells.1.2.2.1,hk1.cells.1.2.2.2⟩ ?_
      clear hK' K' hk1 hb1 hle1
      refine wpAnyT_two (i:=10) (j:=16) (by kernel_rfl) ?ca1 ?ca2
     case' cb=>
      refine wpOp_keep rfl (by rfl) (fun K' hK'=>?_)
      go_simp
      have hn2:(w13.alloc (.cells #[.int .i64 (m:Int)] 3)).heap[w13.heap.size]? = some (.cells #[.int .i64 (m:Int)] 3 (0,0)):=heap_alloc_new _ _
      have hb2:Below w13.heap.size w13 (w13.alloc (.cells #[.int .i64 (m:Int)] 3)):=(Below.refl _ _).alloc (Nat.le_refl _) _
      have hk2:=HK13.out.below hb2
      have hle2:w13.heap.size < (w13.alloc (.cells #[.int .i64 (m:Int)] 3)).heap.size:=lt_of_heap hn2
      have HLe2:=Hd (show w13.heap.size ≤ w13.heap.size from hle13)
      have HN16_2:=Hd hn2
      have HK_2:=Hd hk2
      have HZ_2:=Hd (show w13.heap.size ≤ (w13.alloc (.cells #[.int .i64 (m:Int)] 3)).heap.size from Nat.le_trans HLe2.out (Nat.le_of_lt hle2))
      clear hn2
      generalize w13.alloc (.cells #[.int .i64 (m:Int)] 3) = w16_2 at *
      have hb2':=Hd (HB13.out.trans (hb2.mono (Nat.le_trans hBle (hle13))))
      refine hK' _ _ ⟨hk2.cells.1.2.2.1,hk2.cells.1.2.2.2⟩ ?_
      clear hK' K' hk2 hb2 hle2
      refine wpAnyT_one (i:=9) (by kernel_rfl) ?_
      refine wpOp_keep rfl (by rfl) (fun K' hK'=>?_)
      go_simp
      have hn3:(w16_2.alloc (.cells #[.int .i64 (q:Int)] 3)).heap[w16_2.heap.size]? = some (.cells #[.int .i64 (q:Int)] 3 (0,0)):=heap_alloc_new _ _
      have hb3:Below w16_2.heap.size w16_2 (w16_2.alloc (.cells #[.int .i64 (q:Int)] 3)):=(Below.refl _ _).alloc (Nat.le_refl _) _
      have hk3:=HK_2.out.below hb3
      have hle3:w16_2.heap.size < (w16_2.alloc (.cells #[.int .i64 (q:Int)] 3)).heap.size:=lt_of_heap hn3
      have HLe3:=Hd (show w13.heap.size ≤ w16_2.heap.size from HZ_2.out)
      have HN16_3:=Hd ((hb3.block _ (lt_of_heap HN16_2.out)).trans HN16_2.out)
      have HN9_3:=Hd hn3
      have HK_3:=Hd hk3
      have HZ_3:=Hd (show w13.heap.size ≤ (w16_2.alloc (.cells #[.int .i64 (q:Int)] 3)).heap.size from Nat.le_trans HLe3.out (Nat.le_of_lt hle3))
      clear hn3
      generalize w16_2.alloc (.cells #[.int .i64 (q:Int)] 3) = w9_3 at *
      have hb3':=Hd (hb2'.out.trans (hb3.mono (Nat.le_trans hBle (HZ_2.out))))
      refine hK' _ _ ⟨hk3.cells.1.2.2.1,hk3.cells.1.2.2.2⟩ ?_
      clear hK' K' hk3 hb3 hle3
      refine wpAnyT_one (i:=10) (by kernel_rfl) ?_
      refine wpOp_keep rfl (by rfl) (fun K' hK'=>?_)
      refine step_append_lies _ (by rfl) _ _ _ (by rfl) B 3 i1 _ 1 8 Tryz.underlying27 HIi.out.1 HIi.out.2.1 HIi.out.2.2.1 HIi.out.2.2.2 rfl (by omega) sv K.length (K.map fun k=>.int .i64 (k.size:Int)) (by rfl) HK_3.out.sizes ⟨_,0,none⟩ 1 1 [.int .i64 (q:Int)] (by rfl) (by rfl) (World.news_of_block (cs:=#[.int .i64 (q:Int)]) HN9_3.out) (by simp [Value.oneCell']) (by omega) (by unfold maxLen;omega) (by omega) (Nat.le_trans hBle HZ_3.out) _ rfl ?_
      intro g10 cp10 w10_4 hown hgrow hat hlt
      have hk:=HK_3.out.grewS hgrow hown (fun k hk=>own_grew hat hk)
      have HZ_4:=Hd (Nat.le_trans HZ_3.out hgrow.size)
      have hb4':=Hd (hb3'.out.grown hgrow (Nat.le_trans hBle HZ_3.out) (fun k hk=>(HK_3.out.sizes.lt k hk).1))
      have HN16_4:=Hd ((hgrow.block _ (lt_of_heap HN16_3.out) (fun e=>by have h1:=HSV.out _ e.symm;have h2:=HLe2.out;omega)).trans HN16_3.out)
      have HK_4:=Hd hk
      refine hK' _ _ ⟨hk.cells.1.2.2.1,hk.cells.1.2.2.2⟩ ?_
      clear hK' K' hk hown hgrow hat hlt
      have HKt:=HK_4
      have HNt:=HN16_4
      have HZt:=HZ_4
      have HBt:=hb4'
     case' ca1=>
      refine wpOp_keep rfl (by rfl) (fun K' hK'=>?_)
      refine step_append_lies _ (by rfl) _ _ _ (by rfl) B 3 i1 _ 1 8 Tryz.underlying27 HIi.out.1 HIi.out.2.1 HIi.out.2.2.1 HIi.out.2.2.2 rfl (by omega) sv K.length (K.map fun k=>.int .i64 (k.size:Int)) (by rfl) HK_1.out.sizes ⟨_,0,none⟩ 1 1 [.int .i64 (q:Int)] (by rfl) (by rfl) (World.news_of_block (cs:=#[.int .i64 (q:Int)]) HN9_1.out) (by simp [Value.oneCell']) (by omega) (by unfold maxLen;omega) (by omega) (Nat.le_trans hBle HZ_1.out) _ rfl ?_
      intro g10 cp10 w10_5 hown hgrow hat hlt
      have hk:=HK_1.out.grewS hgrow hown (fun k hk=>own_grew hat hk)
      have HZ_5:=Hd (Nat.le_trans HZ_1.out hgrow.size)
      have hb5':=Hd (hb1'.out.grown hgrow (Nat.le_trans hBle HZ_1.out) (fun k hk=>(HK_1.out.sizes.lt k hk).1))
      have HK_5:=Hd hk
      refine hK' _ _ ⟨hk.cells.1.2.2.1,hk.cells.1.2.2.2⟩ ?_
      clear hK' K' hk hown hgrow hat hlt
      refine wpAnyT_one (i:=16) (by kernel_rfl) ?_
      refine wpOp_keep rfl (by rfl) (fun K' hK'=>?_)
      go_simp
      have hn6:(w10_5.alloc (.cells #[.int .i64 (m:Int)] 3)).heap[w10_5.heap.size]? = some (.cells #[.int .i64 (m:Int)] 3 (0,0)):=heap_alloc_new _ _
      have hb6:Below w10_5.heap.size w10_5 (w10_5.alloc (.cells #[.int .i64 (m:Int)] 3)):=(Below.refl _ _).alloc (Nat.le_refl _) _
      have hk6:=HK_5.out.below hb6
      have hle6:w10_5.heap.size < (w10_5.alloc (.cells #[.int .i64 (m:Int)] 3)).heap.size:=lt_of_heap hn6
      have HLe6:=Hd (show w13.heap.size ≤ w10_5.heap.size from HZ_5.out)
      have HN16_6:=Hd hn6
      have HK_6:=Hd hk6
      have HZ_6:=Hd (show w13.heap.size ≤ (w10_5.alloc (.cells #[.int .i64 (m:Int)] 3)).heap.size from Nat.le_trans HLe6.out (Nat.le_of_lt hle6))
      clear hn6
      generalize w10_5.alloc (.cells #[.int .i64 (m:Int)] 3) = w16_6 at *
      have hb6':=Hd (hb5'.out.trans (hb6.mono (Nat.le_trans hBle (HZ_5.out))))
      refine hK' _ _ ⟨hk6.cells.1.2.2.1,hk6.cells.1.2.2.2⟩ ?_
      clear hK' K' hk6 hb6 hle6
      have HKt:=HK_6
      have HNt:=HN16_6
      have HZt:=HZ_6
      have HBt:=hb6'
     case' ca2=>
      refine wpOp_keep rfl (by rfl) (fun K' hK'=>?_)
      go_simp
      have hn7:(w9_1.alloc (.cells #[.int .i64 (m:Int)] 3)).heap[w9_1.heap.size]? = some (.cells #[.int .i64 (m:Int)] 3 (0,0)):=heap_alloc_new _ _
      have hb7:Below w9_1.heap.size w9_1 (w9_1.alloc (.cells #[.int .i64 (m:Int)] 3)):=(Below.refl _ _).alloc (Nat.le_refl _) _
      have hk7:=HK_1.out.below hb7
      have hle7:w9_1.heap.size < (w9_1.alloc (.cells #[.int .i64 (m:Int)] 3)).heap.size:=lt_of_heap hn7
      have HLe7:=Hd (show w13.heap.size ≤ w9_1.heap.size from HZ_1.out)
      have HN9_7:=Hd ((hb7.block _ (lt_of_heap HN9_1.out)).trans HN9_1.out)
      have HN16_7:=Hd hn7
      have HK_7:=Hd hk7
      have HZ_7:=Hd (show w13.heap.size ≤ (w9_1.alloc (.cells #[.int .i64 (m:Int)] 3)).heap.size from Nat.le_trans HLe7.out (Nat.le_of_lt hle7))
      clear hn7
      generalize w9_1.alloc (.cells #[.int .i64 (m:Int)] 3) = w16_7 at *
      have hb7':=Hd (hb1'.out.trans (hb7.mono (Nat.le_trans hBle (HZ_1.out))))
      refine hK' _ _ ⟨hk7.cells.1.2.2.1,hk7.cells.1.2.2.2⟩ ?_
      clear hK' K' hk7 hb7 hle7
      refine wpAnyT_one (i:=10) (by kernel_rfl) ?_
      refine wpOp_keep rfl (by rfl) (fun K' hK'=>?_)
      refine step_append_lies _ (by rfl) _ _ _ (by rfl) B 3 i1 _ 1 8 Tryz.underlying27 HIi.out.1 HIi.out.2.1 HIi.out.2.2.1 HIi.out.2.2.2 rfl (by omega) sv K.length (K.map fun k=>.int .i64 (k.size:Int)) (by rfl) HK_7.out.sizes ⟨_,0,none⟩ 1 1 [.int .i64 (q:Int)] (by rfl) (by rfl) (World.news_of_block (cs:=#[.int .i64 (q:Int)]) HN9_7.out) (by simp [Value.oneCell']) (by omega) (by unfold maxLen;omega) (by omega) (Nat.le_trans hBle HZ_7.out) _ rfl ?_
      intro g10 cp10 w10_8 hown hgrow hat hlt
      have hk:=HK_7.out.grewS hgrow hown (fun k hk=>own_grew hat hk)
      have HZ_8:=Hd (Nat.le_trans HZ_7.out hgrow.size)
      have hb8':=Hd (hb7'.out.grown hgrow (Nat.le_trans hBle HZ_7.out) (fun k hk=>(HK_7.out.sizes.lt k hk).1))
      have HN16_8:=Hd ((hgrow.block _ (lt_of_heap HN16_7.out) (fun e=>by have h1:=HSV.out _ e.symm;have h2:=HLe7.out;omega)).trans HN16_7.out)
      have HK_8:=Hd hk
      refine hK' _ _ ⟨hk.cells.1.2.2.1,hk.cells.1.2.2.2⟩ ?_
      clear hK' K' hk hown hgrow hat hlt
      have HKt:=HK_8
      have HNt:=HN16_8
      have HZt:=HZ_8
      have HBt:=hb8'
     all_goals
      refine wpAnyT_one (i:=17) (by kernel_rfl) ?_
      refine wpOp_keep rfl (by rfl) (fun K' hK'=>?_)
      refine step_append_lies _ (by rfl) _ _ _ (by rfl) B 3 i1 _ 1 8 Tryz.underlying27 HIi.out.1 HIi.out.2.1 HIi.out.2.2.1 HIi.out.2.2.2 rfl (by omega) av K.length (K.map fun k=>.int .i64 (k.align:Int)) (by rfl) HKt.out.aligns ⟨_,0,none⟩ 1 1 [.int .i64 (m:Int)] (by rfl) (by rfl) (World.news_of_block (cs:=#[.int .i64 (m:Int)]) HNt.out) (by simp [Value.oneCell']) (by omega) (by unfold maxLen;omega) (by omega) (Nat.le_trans hBle HZt.out) _ rfl ?_
      intro g17 cp17 w17_9 hown hgrow hat hlt
      have hk:=HKt.out.grewA hgrow hown (fun k hk=>own_grew hat hk)
      have HZ_9:=Hd (Nat.le_trans HZt.out hgrow.size)
      have hb9':=Hd (HBt.out.grown hgrow (Nat.le_trans hBle HZt.out) (fun k hk=>(HKt.out.aligns.lt k hk).1))
      have HK_9:=Hd hk
      refine hK' _ _ ⟨hk.cells.1.2.2.1,hk.cells.1.2.2.2⟩ ?_
      clear hK' K' hk hown hgrow hat hlt
      refine wpAnyT_one (i:=18) (by kernel_rfl) ?_
      refine wpOp_keep rfl (by rfl) (fun K' hK'=>?_)
      go_simp
      refine hK' _ _ ⟨HK_9.out.cells.1.2.2.1,HK_9.out.cells.1.2.2.2⟩ ?_
      clear hK' K'
      refine wpAnyT_one (i:=19) (by kernel_rfl) ?_
      refine wpOp_keep rfl (by rfl) (fun K' hK'=>?_)
      go_simp
      refine hK' _ _ ⟨HK_9.out.cells.1.2.2.1,HK_9.out.cells.1.2.2.2⟩ ?_
      clear hK' K'
      refine wpAnyT_one (i:=20) (by kernel_rfl) ?_
      refine wpOp_last rfl (by rfl) (fun K' hK'=>?_)
      obtain ⟨⟨_,_,l2,l3⟩,lf⟩:=HK_9.out.cells
      have lf2:=lf 2
      go_simp
      refine hK' _ _ ?_
      clear hK' K' l2 l3 lf lf2
      have HK20:=Hd (HK_9.out.put 2 (.slice (some ⟨g10,0,none⟩) (K.length + 1) cp10) rfl)
      have HB20:=Hd (hb9'.out.setCell (p:=⟨b,2,none⟩) HK_9.out.base.1 (.slice (some ⟨g10,0,none⟩) (K.length + 1) cp10))
      obtain ⟨⟨_,_,l2,l3⟩,lf⟩:=HK20.out.cells
      have lf3:=lf 3
      generalize w17_9.setCell ⟨b,2,none⟩ (.slice (some ⟨g10,0,none⟩) (K.length + 1) cp10) = w20 at *
      refine wpAny_take (i:=21) (v:=.pointer (some ⟨b,0,none⟩)) rfl (by kernel_rfl) (by kernel_rfl) (by kernel_rfl) (fun _ _ _ h=>h) (Or.inl ⟨by rfl,fun w=>by go_simp⟩) ?_
      refine wpAny_take (i:=22) (v:=.pointer (some ⟨b,3,none⟩)) rfl (by kernel_rfl) (by kernel_rfl) (by kernel_rfl) (fun _ _ _ h=>h) (Or.inl ⟨by rfl,fun w=>by go_simp⟩) ?_
      refine wpAny_ready (rs:=[23]) (by kernel_rfl) (by simp) (AllReady.cons rfl (fun K' hK'=>?_) AllReady.nil)
      go_simp
      refine hK' _ _ ?_
      clear hK' K' l2 l3 lf lf3
      have HK23:=Hd (HK20.out.put 3 (.slice (some ⟨g17,0,none⟩) (K.length + 1) cp17) rfl)
      have HB23:=Hd (HB20.out.setCell (p:=⟨b,3,none⟩) HK20.out.base.1 (.slice (some ⟨g17,0,none⟩) (K.length + 1) cp17))
      generalize w20.setCell ⟨b,3,none⟩ (.slice (some ⟨g17,0,none⟩) (K.length + 1) cp17) = w23 at *
      refine wpAny_done (by kernel_rfl) ?_ _
      go_wp2_with fail
      go_ret
      exact add_yes hfin.out HB23.out HK23.out hmvl
end
end Go.Proofs.YtkokdafkjjcgoaaGreatDoor
