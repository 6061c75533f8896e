/- One more struct: the plain laws behind it. -/
import Derived.Test.YtkokdafkjjcgoaaGreatDoorMg15
import Derived.OrdersHeld
import Derived.StillTail
namespace Go.Proofs.YtkokdafkjjcgoaaGreatDoor
open Go.RowKit Go.Maps
theorem findK_snoc (K:List Kn) (k:Kn) (s:List UInt8):findK (K ++ [k]) s = (findK K s).or (if s = k.name.data.toList then some K.length else none):=by
 unfold findK
 rw [List.findIdx?_append]
 congr 1
 by_cases h:s = k.name.data.toList
 ·simp [List.findIdx?_cons,h]
 ·have h':¬ k.name.data.toList = s:=fun e=>h e.symm
  simp [List.findIdx?_cons,h,h']
theorem lookV_snoc (K:List Kn) (k:Kn) (hno:(findK K k.name.data.toList).isSome = false) (s:List UInt8) :
 lookV (K ++ [k]) s = if s = k.name.data.toList then ((K.length:Int),true) else lookV K s:=by
 unfold lookV
 rw [findK_snoc]
 by_cases h:s = k.name.data.toList
 ·subst h
  have:findK K k.name.data.toList = none:=by simpa using hno
  rw [this,if_pos rfl]
  simp
 ·rw [if_neg h,if_neg h]
  cases findK K s <;> rfl
theorem lookV_two (K:List Kn) (s:List UInt8):(lookV K s).2 = (findK K s).isSome:=by
 unfold lookV
 cases findK K s <;> rfl
theorem meas_al {K:List Kn} (hF:FitK K):∀ t:Ty,1 ≤ (measT K t).2 ∧ (measT K t).2 ≤ 4
 | .base c=>by
   rw [measT]
   split
   ·exact ⟨Nat.le_refl _,by decide⟩
   ·split
    ·exact ⟨by decide,by decide⟩
    ·split <;> exact ⟨by decide,by decide⟩
 | .ptr _=>by rw [measT];exact ⟨by decide,by decide⟩
 | .fn _ _=>by rw [measT];exact ⟨by decide,by decide⟩
 | .arr n t=>by rw [measT];exact meas_al hF t
 | .str s=>by
   rw [measT]
   split
   ·rename_i k hk
    obtain ⟨i,_,hi⟩:=Option.bind_eq_some_iff.1 hk
    exact (hF.2 k (List.mem_of_getElem? hi)).2
   ·exact ⟨by decide,by decide⟩
theorem checkT_zero {K:List Kn} {t:Ty} (h:checkT K t = 0):shapeT t = true ∧ thereT K t = true ∧ sizedT K t = true:=by
 unfold checkT at h
 split at h
 ·simp at h
 ·split at h
  ·simp at h
  ·split at h
   ·simp at h
   ·split at h
    ·simp at h
    ·simp_all
theorem meas_bd {K:List Kn} (hF:FitK K):∀ t:Ty,checkT K t = 0 → (measT K t).1 ≤ 65536
 | .base c,_=>by
   rw [measT]
   split
   ·decide
   ·split
    ·decide
    ·split <;> decide
 | .ptr _,_=>by rw [measT];decide
 | .fn _ _,_=>by rw [measT];decide
 | .arr n t,h=>by
   obtain ⟨_,h2,h3⟩:=checkT_zero h
   rw [sizedT,Bool.and_eq_true,Bool.or_eq_true] at h3
   rw [thereT] at h2
   rw [measT]
   rcases h3.2 with h4 | h4
   ·rw [h2] at h4;simp at h4
   ·exact of_decide_eq_true h4
 | .str s,_=>by
   rw [measT]
   split
   ·rename_i k hk
    obtain ⟨i,_,hi⟩:=Option.bind_eq_some_iff.1 hk
    exact (hF.2 k (List.mem_of_getElem? hi)).1
   ·decide
theorem capM_id {p:Nat × Nat} (h:p.1 ≤ 65536):capM p = p:=by
 obtain ⟨a,b⟩:=p
 simp only [capM,Prod.mk.injEq,and_true]
 simp only at h
 omega
theorem fit_bd (n a:Nat) (h1:1 ≤ a) (h4:a ≤ 4):n ≤ fitN n a ∧ fitN n a ≤ n + 3:=by
 unfold fitN
 have:a = 1 ∨ a = 2 ∨ a = 3 ∨ a = 4:=by omega
 rcases this with rfl | rfl | rfl | rfl <;> omega
def seenV (seen:List ByteArray) (t:List UInt8):Int × Bool:=if Lib.containsS seen ⟨t.toArray⟩ = true then (1,true) else (0,false)
theorem seen_step (seen:List ByteArray) (m:ByteArray) (t:List UInt8):(if t = m.data.toList then ((1:Int),true) else seenV seen t) = seenV (seen ++ [m]) t:=by
 unfold seenV
 by_cases h:t = m.data.toList
 ·subst h
  rw [if_pos rfl,if_pos]
  rw [Lib.containsS_iff]
  simp
 ·rw [if_neg h]
  have:Lib.containsS (seen ++ [m]) ⟨t.toArray⟩ = Lib.containsS seen ⟨t.toArray⟩:=by
   rw [Bool.eq_iff_iff,Lib.containsS_iff,Lib.containsS_iff,List.mem_append]
   constructor
   ·rintro (h1 | h1)
    ·exact h1
    ·rw [List.mem_singleton] at h1
     exact absurd (by rw [← h1]) h
   ·exact .inl
  rw [this]
theorem seen_at (seen:List ByteArray) (m:ByteArray):(seenV seen m.data.toList).1 = if Lib.containsS seen m = true then 1 else 0:=by
 unfold seenV
 rw [show (⟨m.data.toList.toArray⟩:ByteArray) = m by simp]
 split <;> rfl
theorem seen_nil (t:List UInt8):seenV [] t = (0,false):=by
 unfold seenV
 rw [if_neg]
 rw [Lib.containsS_iff]
 simp
theorem addK_bd {K:List Kn} {x:Sr} {k:Kn} (h:addK K x = .inr k):k.toSr = x ∧ (findK K x.name.data.toList).isSome = false ∧ k.size ≤ 65536:=by
 unfold addK at h
 split at h
 ·cases h
 ·split at h
  ·cases h
  ·rename_i h2
   split at h
   ·cases h
   ·split at h
    ·cases h
    ·split at h
     ·cases h
     ·split at h
      ·cases h
      ·obtain rfl:=Sum.inr.inj h
       exact ⟨rfl,by simpa using h2,by simp only;omega⟩
structure KnR (B:Nat) (w:World) (b mb:Nat) (c0 c2 c3 lv sv av:Value) (n:Nat) (f:List UInt8 → Int × Bool) (nl:Nat) (ll:List Value) (ns:Nat) (ls:List Value) (na:Nat) (la:List Value):Prop where
 blk:w.heap[b]? = some (.cells #[c0,.map (some mb),c2,c3] 214 (0,0))
 base:B ≤ b ∧ B ≤ mb ∧ b ≠ mb
 mlt:mb < w.heap.size
 names:MapF w mb n f
 sizes:w.ownsRow B 3 1 sv ns ls
 aligns:w.ownsRow B 3 1 av na la
 list:w.ownsRow B 114 2 lv nl ll
 apart:∀ k,(sv.ownBlock = some k → k ≠ b ∧ k ≠ mb ∧ av.ownBlock ≠ some k ∧ lv.ownBlock ≠ some k) ∧ (av.ownBlock = some k → k ≠ b ∧ k ≠ mb ∧ lv.ownBlock ≠ some k) ∧ (lv.ownBlock = some k → k ≠ b ∧ k ≠ mb)
section
variable {B b mb:Nat} {w w':World} {c0 c2 c3 lv sv av:Value} {n:Nat} {f:List UInt8 → Int × Bool} {nl ns na:Nat} {ll ls la:List Value}
theorem MapF.lt (h:MapF w mb n f):mb < w.heap.size:=by
 obtain ⟨D,⟨es,clock,hb,_⟩,_⟩:=h
 exact lt_of_heap hb
theorem KnAt.toR {mv:List Value} {K:List Kn} (h:KnAt B w b mb lv sv av mv K) :
 KnR B w b mb lv sv av lv sv av K.length (lookV K) K.length ((K.zip mv).flatMap fun q=>[.string q.1.name,q.2]) K.length (K.map fun k=>.int .i64 (k.size:Int)) K.length (K.map fun k=>.int .i64 (k.align:Int)):=
 ⟨h.blk,h.base,MapF.lt (NamesAt.def.1 h.names),h.names,h.sizes,h.aligns,h.list,h.apart⟩
theorem KnR.toAt {mv:List Value} {K:List Kn} (h:KnR B w b mb lv sv av lv sv av K.length (lookV K) K.length ((K.zip mv).flatMap fun q=>[.string q.1.name,q.2]) K.length (K.map fun k=>.int .i64 (k.size:Int)) K.length (K.map fun k=>.int .i64 (k.align:Int)))
 (hm:mv.length = K.length):KnAt B w b mb lv sv av mv K:=⟨h.blk,h.base,h.names,h.sizes,h.aligns,h.list,hm,h.apart⟩
theorem KnR.lt (h:KnR B w b mb c0 c2 c3 lv sv av n f nl ll ns ls na la):b < w.heap.size:=lt_of_heap h.blk
theorem KnR.below (h:KnR B w b mb c0 c2 c3 lv sv av n f nl ll ns ls na la) (hb:Below w.heap.size w w'):KnR B w' b mb c0 c2 c3 lv sv av n f nl ll ns ls na la:=
 ⟨by rw [hb.block b h.lt];exact h.blk,h.base,Nat.lt_of_lt_of_le h.mlt hb.size,h.names.below hb,h.sizes.belowed hb,h.aligns.belowed hb,h.list.belowed hb,h.apart⟩
theorem KnR.cells (h:KnR B w b mb c0 c2 c3 lv sv av n f nl ll ns ls na la) :
 (w.cell? ⟨b,0,none⟩ = some c0 ∧ w.cell? ⟨b,1,none⟩ = some (.map (some mb)) ∧ w.cell? ⟨b,2,none⟩ = some c2 ∧ w.cell? ⟨b,3,none⟩ = some c3) ∧ ∀ j,w.frozen? ⟨b,j,none⟩ = false:=by
 refine ⟨⟨?_,?_,?_,?_⟩,fun j=>?_⟩
 ·simp [World.cell?,h.blk]
 ·simp [World.cell?,h.blk]
 ·simp [World.cell?,h.blk]
 ·simp [World.cell?,h.blk]
 ·simp [World.frozen?,h.blk]
theorem MapF.kept {row:Option Nat} (h:MapF w mb n f) (hg:w.grownBy w' row) (hne:some mb ≠ row):MapF w' mb n f:=by
 obtain ⟨D,hD,hv⟩:=h
 exact ⟨D,hD.kept hg hne,hv⟩
theorem row_kept {e:TypeId} {size m:Nat} {v u:Value} {xs:List Value} (h:w.ownsRow B e size v m xs) (hg:w.grownBy w' u.ownBlock) (hne:∀ k,u.ownBlock = some k → v.ownBlock ≠ some k):w'.ownsRow B e size v m xs:=by
 refine h.kept hg ?_
 cases hv:v.ownBlock with
 | none=>exact .inl rfl
 | some k=>exact .inr fun e=>hne k e.symm hv
theorem row_kept' {e:TypeId} {size m:Nat} {v u:Value} {xs:List Value} (h:w.ownsRow B e size v m xs) (hg:w.grownBy w' u.ownBlock) (hne:∀ k,v.ownBlock = some k → u.ownBlock ≠ some k):w'.ownsRow B e size v m xs:=
 row_kept h hg fun k hk hv=>hne k hv hk
theorem KnR.grewS {sv':Value} {ns':Nat} {ls':List Value} (h:KnR B w b mb c0 c2 c3 lv sv av n f nl ll ns ls na la) (hg:w.grownBy w' sv.ownBlock) (ho:w'.ownsRow B 3 1 sv' ns' ls')
 (hs:∀ k,sv'.ownBlock = some k → sv.ownBlock = some k ∨ k = w.heap.size):KnR B w' b mb c0 c2 c3 lv sv' av n f nl ll ns' ls' na la:=by
 have hb:some b ≠ sv.ownBlock:=fun e=>((h.apart b).1 e.symm).1 rfl
 have hm:some mb ≠ sv.ownBlock:=fun e=>((h.apart mb).1 e.symm).2.1 rfl
 refine ⟨by rw [hg.block b h.lt hb];exact h.blk,h.base,Nat.lt_of_lt_of_le h.mlt hg.size,h.names.kept hg hm,ho,row_kept h.aligns hg fun k hk=>((h.apart k).1 hk).2.2.1,row_kept h.list hg fun k hk=>((h.apart k).1 hk).2.2.2,fun k=>⟨fun hk=>?_,(h.apart k).2⟩⟩
 rcases hs k hk with h1 | rfl
 ·exact (h.apart k).1 h1
 ·have h1:=h.lt
  have h2:=h.mlt
  exact ⟨by omega,by omega,fun e=>absurd (h.aligns.lt _ e).2 (Nat.lt_irrefl _),fun e=>absurd (h.list.lt _ e).2 (Nat.lt_irrefl _)⟩
theorem KnR.grewA {av':Value} {na':Nat} {la':List Value} (h:KnR B w b mb c0 c2 c3 lv sv av n f nl ll ns ls na la) (hg:w.grownBy w' av.ownBlock) (ho:w'.ownsRow B 3 1 av' na' la')
 (hs:∀ k,av'.ownBlock = some k → av.ownBlock = some k ∨ k = w.heap.size):KnR B w' b mb c0 c2 c3 lv sv av' n f nl ll ns ls na' la':=by
 have hb:some b ≠ av.ownBlock:=fun e=>((h.apart b).2.1 e.symm).1 rfl
 have hm:some mb ≠ av.ownBlock:=fun e=>((h.apart mb).2.1 e.symm).2.1 rfl
 refine ⟨by rw [hg.block b h.lt hb];exact h.blk,h.base,Nat.lt_of_lt_of_le h.mlt hg.size,h.names.kept hg hm,row_kept' h.sizes hg fun k hk=>((h.apart k).1 hk).2.2.1,ho,row_kept h.list hg fun k hk=>((h.apart k).2.1 hk).2.2,fun k=>⟨fun hk=>⟨((h.apart k).1 hk).1,((h.apart k).1 hk).2.1,fun e=>?_,((h.apart k).1 hk).2.2.2⟩,fun hk=>?_,(h.apart k).2.2⟩⟩
 ·rcases hs k e with h1 | rfl
  ·exact ((h.apart k).1 hk).2.2.1 h1
  ·exact absurd (h.sizes.lt _ hk).2 (Nat.lt_irrefl _)
 ·rcases hs k hk with h1 | rfl
  ·exact (h.apart k).2.1 h1
  ·have h1:=h.lt
   have h2:=h.mlt
   exact ⟨by omega,by omega,fun e=>absurd (h.list.lt _ e).2 (Nat.lt_irrefl _)⟩
theorem KnR.grewL {lv':Value} {nl':Nat} {ll':List Value} (h:KnR B w b mb c0 c2 c3 lv sv av n f nl ll ns ls na la) (hg:w.grownBy w' lv.ownBlock) (ho:w'.ownsRow B 114 2 lv' nl' ll')
 (hs:∀ k,lv'.ownBlock = some k → lv.ownBlock = some k ∨ k = w.heap.size):KnR B w' b mb c0 c2 c3 lv' sv av n f nl' ll' ns ls na la:=by
 have hb:some b ≠ lv.ownBlock:=fun e=>((h.apart b).2.2 e.symm).1 rfl
 have hm:some mb ≠ lv.ownBlock:=fun e=>((h.apart mb).2.2 e.symm).2 rfl
 refine ⟨by rw [hg.block b h.lt hb];exact h.blk,h.base,Nat.lt_of_lt_of_le h.mlt hg.size,h.names.kept hg hm,row_kept' h.sizes hg fun k hk=>((h.apart k).1 hk).2.2.2,row_kept' h.aligns hg fun k hk=>((h.apart k).2.1 hk).2.2,ho,fun k=>⟨fun hk=>⟨((h.apart k).1 hk).1,((h.apart k).1 hk).2.1,((h.apart k).1 hk).2.2.1,fun e=>?_⟩,fun hk=>⟨((h.apart k).2.1 hk).1,((h.apart k).2.1 hk).2.1,fun e=>?_⟩,fun hk=>?_⟩⟩
 ·rcases hs k e with h1 | rfl
  ·exact ((h.apart k).1 hk).2.2.2 h1
  ·exact absurd (h.sizes.lt _ hk).2 (Nat.lt_irrefl _)
 ·rcases hs k e with h1 | rfl
  ·exact ((h.apart k).2.1 hk).2.2 h1
  ·exact absurd (h.aligns.lt _ hk).2 (Nat.lt_irrefl _)
 ·rcases hs k hk with h1 | rfl
  ·exact (h.apart k).2.2 h1
  ·have h1:=h.lt
   have h2:=h.mlt
   exact ⟨by omega,by omega⟩
theorem KnR.turned {n':Nat} {f':List UInt8 → Int × Bool} (h:KnR B w b mb c0 c2 c3 lv sv av n f nl ll ns ls na la) (ht:w.mapTurned w' mb) (hn:MapF w' mb n' f'):KnR B w' b mb c0 c2 c3 lv sv av n' f' nl ll ns ls na la:=by
 have hg:=ht.grown
 refine ⟨by rw [hg.block b h.lt (by simp only [ne_eq,Option.some.injEq];exact h.base.2.2)];exact h.blk,h.base,Nat.lt_of_lt_of_le h.mlt hg.size,hn,h.sizes.kept hg ?_,h.aligns.kept hg ?_,h.list.kept hg ?_,h.apart⟩
 ·exact .inr fun e=>((h.apart mb).1 e).2.1 rfl
 ·exact .inr fun e=>((h.apart mb).2.1 e).2.1 rfl
 ·exact .inr fun e=>((h.apart mb).2.2 e).2 rfl
theorem row_set {e:TypeId} {size m:Nat} {v:Value} {xs:List Value} (h:w.ownsRow B e size v m xs) (a:Addr) (u:Value) (hne:v.ownBlock ≠ some a.block):(w.setCell a u).ownsRow B e size v m xs:=
 h.kept (row:=some a.block) ⟨rfl,rfl,rfl,by simp,fun k _ hk=>Below.heap_setCell _ _ _ _ (by simpa using hk)⟩ (.inr hne)
theorem KnR.put {c0' c2' c3':Value} (h:KnR B w b mb c0 c2 c3 lv sv av n f nl ll ns ls na la) (j:Nat) (u:Value) (hc:(#[c0,.map (some mb),c2,c3]:Array Value).setIfInBounds j u = #[c0',.map (some mb),c2',c3']) :
 KnR B (w.setCell ⟨b,j,none⟩ u) b mb c0' c2' c3' lv sv av n f nl ll ns ls na la:=by
 refine ⟨?_,h.base,by simpa using h.mlt,h.names.other _ (by simpa using Ne.symm h.base.2.2) _,row_set h.sizes _ _ (fun e=>((h.apart b).1 e).1 rfl),row_set h.aligns _ _ (fun e=>((h.apart b).2.1 e).1 rfl),row_set h.list _ _ (fun e=>((h.apart b).2.2 e).1 rfl),h.apart⟩
 rw [← hc]
 simp [World.setCell,Array.getElem?_modify,h.blk]
end
set_option maxHeartbeats 1000000 in
theorem object_ok (t:Ty) (hr:Right t) (w:World):Calls Tryz.prog 198 #[.string (tyB t)] w fun e w'=>e = .returned (.bool (objectT t)) ∧ w' = w:=by
 have hv:=one_is hr 118
 have h0:=(tyB_head t).1
 have hf:((((tyB t)[0]'h0).toNat:Int) == 102) = isFnT t:=head_fn' hr
 have ho:objectT t = (!isC 118 t && !isFnT t):=by rw [objectT,isVoid_is]
 generalize tyB t = s at *
 rcases h1:isC 118 t with _ | _
 ·rw [h1] at hv ho
  have hv':(s.toList != [118]) = true:=by rw [bne,hv];rfl
  rcases h2:isFnT t with _ | _
  ·rw [h2] at hf ho
   have hf':((s[0].toNat:Int) != 102) = true:=by rw [bne,hf];rfl
   have hfin:=Hd ho
   clear ho h1 h2
   go_enter Tryz.func198,Tryz.ntmps198
   go_wp2_with fail
   go_ret
   exact ⟨by rw [hfin.out];rfl,rfl⟩
  ·rw [h2] at hf ho
   have hf':((s[0].toNat:Int) != 102) = false:=by rw [bne,hf];rfl
   have hfin:=Hd ho
   clear ho h1 h2
   go_enter Tryz.func198,Tryz.ntmps198
   go_wp2_with fail
   go_ret
   exact ⟨by rw [hfin.out];rfl,rfl⟩
 ·rw [h1] at hv ho
  have hv':(s.toList != [118]) = false:=by rw [bne,hv];rfl
  have hfin:=Hd ho
  clear ho h1 hf
  go_enter Tryz.func198,Tryz.ntmps198
  go_wp2_with fail
  go_ret
  exact ⟨by rw [hfin.out];rfl,rfl⟩
set_option maxHeartbeats 1000000 in
theorem fit_ok (n a:Nat) (hn:n ≤ 8388608) (h1:1 ≤ a) (h4:a ≤ 4) (w:World):Calls Tryz.prog 200 #[.int .i64 (n:Int),.int .i64 (a:Int)] w fun e w'=>e = .returned (.int .i64 (fitN n a:Nat)) ∧ w' = w:=by
 have hfin:=Hd (show fitN n a = (n + a - 1) / a * a from rfl)
 have hb:=fit_bd n a h1 h4
 have:a = 1 ∨ a = 2 ∨ a = 3 ∨ a = 4:=by omega
 generalize fitN n a = r at *
 rcases this with rfl | rfl | rfl | rfl
 all_goals
  go_enter Tryz.func200,Tryz.ntmps200
  go_wp2_with fail
  go_ret
  refine ⟨ret_i64 ?_,rfl⟩
  have:=hfin.out
  omega
end Go.Proofs.YtkokdafkjjcgoaaGreatDoor
namespace Go
section
variable {P:Program} {ops:Array Oper} {Q:Exit → Act → World → Prop} {md:Region.Mode} {S:World → Prop} {T:Nat → Bool}
def stillUpon (P:Program) (w:World) (v:Value):Result Next → Prop
 | .ok (.value u) w'=>u = v ∧ w' = w
 | .ok (.enter f args) w'=>w' = w ∧ Calls P f args w fun e w''=>e = .returned v ∧ w'' = w
 | _=>False
def YieldsS (P:Program) (ops:Array Oper) (S:World → Prop) (o:Oper) (v:Value) (a:Act):Prop:=
 (Region.wanted o (yielded ops a.tmps) = true ∧ ∀ w,S w → stillUpon P w v ((execOp a.eval o).run P w)) ∨
 (Region.wanted o (yielded ops a.tmps) = false ∧ v = undef)
theorem YieldsS.wpOp {i:Nat} {o:Oper} {v:Value} {a:Act} (hi:ops[i]? = some o) (hy:YieldsS P ops S o v a)
 {K:Act → World → Prop} {w:World} (hS:S w) (h:K (a.put o.dst v) w):wpOp P ops Q i K a w:=by
 unfold Go.wpOp
 simp only [hi]
 rcases hy with ⟨hw,hv⟩ | ⟨hw,rfl⟩
 ·simp only [hw,if_true,Oper.wp]
  left
  have h1:=hv w hS
  generalize (execOp a.eval o).run P w = r at *
  cases r with
  | ok n w'=>
    cases n <;> simp only [stillUpon] at h1 <;> simp only [Oper.upon]
    case value u=>
     obtain ⟨rfl,rfl⟩:=h1
     exact h
    case enter f args=>
     obtain ⟨rfl,hc⟩:=h1
     exact hc.mono fun e w'' ⟨he,hw''⟩=>by subst he;subst hw'';exact h
  | halt x w'=>simp only [stillUpon] at h1
 ·simp only [hw,Bool.false_eq_true,if_false];exact h
theorem YieldsS.of_same {o:Oper} {v:Value} {a a':Act} (hy:YieldsS P ops S o v a) (he:execOp a'.eval o = execOp a.eval o)
 (hw:Region.wanted o (yielded ops a'.tmps) = Region.wanted o (yielded ops a.tmps)):YieldsS P ops S o v a':=by
 unfold YieldsS at *
 rw [he,hw]
 exact hy
theorem wpOp_putS {j:Nat} {oi oj:Oper} {v:Value} (hj:ops[j]? = some oj) (hap:oi.apart ops oj = true)
 (hsi:∀ cs b,oi.op ≠ .select cs b) (hsj:∀ cs b,oj.op ≠ .select cs b)
 (hQ:∀ c a w,Q (.panic c) (a.put oi.dst v) w → Q (.panic c) a w) {K:Act → World → Prop} {a:Act} {w:World}
 (hy:YieldsS P ops S oi v a) (h:wpOp P ops Q j K (a.put oi.dst v) w) :
 wpOp P ops Q j (fun a' w'=>YieldsS P ops S oi v a' ∧ K (a'.put oi.dst v) w') a w:=by
 obtain ⟨h1,h2,h3⟩:=Oper.apart_spec hap
 have keep:∀ (a:Act),YieldsS P ops S oi v a → ∀ u,YieldsS P ops S oi v (a.put oj.dst u):=fun a hy u=>
  hy.of_same (execOp_put oi hsi a oj.dst u h3) (wanted_put oi a oj.dst u h3)
 have keepD:∀ d,YieldsS P ops S oi v { a with defers:=d :: a.defers }:=fun d=>hy.of_same rfl rfl
 unfold wpOp at *
 simp only [hj] at *
 rw [wanted_put oj a oi.dst v h1] at h
 split
 ·rename_i hw
  simp only [hw,if_true] at h
  rcases h with h | ⟨hasks,hlets⟩
  case inr=>exact .inr ⟨by unfold Oper.asks at *;rw [execOp_put oj hsj a oi.dst v h1] at hasks;exact hasks,hlets⟩
  refine .inl ?_
  unfold Oper.wp at *
  rw [execOp_put oj hsj a oi.dst v h1] at h
  generalize (execOp a.eval oj).run P w = r at *
  cases r with
  | ok n w'=>
    cases n <;> simp only [Oper.upon] at h ⊢
    case value u=>exact ⟨keep a hy u,by rw [← Act.put_comm a v u h2];exact h⟩
    case skip=>exact ⟨keep a hy _,by rw [← Act.put_comm a v undef h2];exact h⟩
    case defer d=>
     refine ⟨keep _ (keepD d) _,?_⟩
     rw [← Act.put_comm _ v undef h2,← Act.put_defers]
     exact h
    case enter f args=>
     refine Calls.mono h fun e w'' he=>?_
     cases e with
     | returned u=>exact ⟨keep a hy u,by rw [← Act.put_comm a v u h2];exact he⟩
     | panicked c=>exact hQ _ _ _ he
     | outgrown=>exact he
    case row row args=>exact Rows.mono h fun u w'' he=>⟨keep a hy u,by rw [← Act.put_comm a v u h2];exact he⟩
  | halt x w'=>
    cases x <;> simp only [Oper.upon] at h ⊢
    case panic u=>exact hQ _ _ _ h
 ·rename_i hw
  simp only [hw] at h
  exact ⟨keep a hy _,by rw [← Act.put_comm a v undef h2];exact h⟩
def wpAnyT (P:Program) (md:Region.Mode) (ops:Array Oper) (Q:Exit → Act → World → Prop) (S:World → Prop) (T:Nat → Bool):Nat → Array Bool → Act → World → Prop
 | 0,listed,a,w=>Region.ready md ops listed = [] ∧ Q .normal a w
 | fuel + 1,listed,a,w=>
   (Region.ready md ops listed = [] → Q .normal a w) ∧
   ∀ i ∈ Region.ready md ops listed,wpOp P ops Q i (fun a' w'=>if T i = true then wpAny P md ops Q fuel (listed.setIfInBounds i true) a' w' else S w' ∧ wpAnyT P md ops Q S T fuel (listed.setIfInBounds i true) a' w') a w
theorem wpAny_of_T:∀ (fuel:Nat) (listed:Array Bool) (a:Act) (w:World),wpAnyT P md ops Q S T fuel listed a w → wpAny P md ops Q fuel listed a w
 | 0,_,_,_,h=>h
 | fuel + 1,_,_,_,h=>⟨h.1,fun i hi=>wpOp_mono (fun a' w' h'=>by
    by_cases ht:T i = true
    ·rw [if_pos ht] at h';exact h'
    ·rw [if_neg ht] at h';exact wpAny_of_T fuel _ a' w' h'.2) (h.2 i hi)⟩
theorem wpAnyT_first {i:Nat} {oi:Oper} {v:Value} (hi:ops[i]? = some oi) (hsel:∀ (j:Nat) (o:Oper) cs b,ops[j]? = some o → o.op ≠ .select cs b)
 (hQ:∀ c a w,Q (.panic c) (a.put oi.dst v) w → Q (.panic c) a w) (hT:∀ j,T j = true → Region.waitsFor md ops j i = true) :
 ∀ (fuel:Nat) (listed:Array Bool) (a:Act) (w:World),
  (∀ j oj,ops[j]? = some oj → j ≠ i → listed.getD j true = false → (∀ e ∈ oj.after,Region.binds md e = true → e.on ≠ i) → oi.apart ops oj = true) →
  i ∈ Region.ready md ops listed → YieldsS P ops S oi v a → S w → T i = false →
  wpAnyT P md ops Q S T fuel (listed.setIfInBounds i true) (a.put oi.dst v) w → wpAnyT P md ops Q S T (fuel + 1) listed a w:=by
 intro fuel
 induction fuel with
 | zero=>
   intro listed a w _ hr hy hS hTi H
   refine ⟨fun h=>(by rw [h] at hr;cases hr),fun j hj=>?_⟩
   by_cases hji:j = i
   ·subst hji;exact hy.wpOp hi hS (by rw [if_neg (by rw [hTi];decide)];exact ⟨hS,H⟩)
   ·have:=ready_mono hj hji
    rw [H.1] at this
    cases this
 | succ fuel ih=>
   intro listed a w hfree hr hy hS hTi H
   refine ⟨fun h=>(by rw [h] at hr;cases hr),fun j hj=>?_⟩
   by_cases hji:j = i
   ·subst hji;exact hy.wpOp hi hS (by rw [if_neg (by rw [hTi];decide)];exact ⟨hS,H⟩)
   ·have h1:=H.2 j (ready_mono hj hji)
    obtain ⟨hjun,oj,hoj,hall⟩:=mem_ready.1 hj
    have hnot:∀ e ∈ oj.after,Region.binds md e = true → e.on ≠ i:=fun e he hb heq=>by
     have h1:=hall e he hb
     have h0:=(mem_ready.1 hr).1
     rw [heq] at h1
     rcases Nat.lt_or_ge i listed.size with h' | h'
     ·simp [h'] at h0 h1;rw [h0] at h1;cases h1
     ·simp [Array.getElem?_eq_none h'] at h1
    have hTj:¬ T j = true:=fun ht=>by
     obtain ⟨oj',hoj',e,he,hb,hon⟩:=Region.waitsFor_spec (hT j ht)
     have:oj' = oj:=Option.some.inj (hoj'.symm.trans hoj)
     subst this
     exact hnot e he hb hon
    simp only [if_neg hTj] at h1 ⊢
    have h2:=wpOp_putS hoj (hfree j oj hoj hji hjun hnot) (fun cs b=>hsel i oi cs b hi) (fun cs b=>hsel j oj cs b hoj) hQ hy h1
    have hfree':∀ k ok,ops[k]? = some ok → k ≠ i → (listed.setIfInBounds j true).getD k true = false →
     (∀ e ∈ ok.after,Region.binds md e = true → e.on ≠ i) → oi.apart ops ok = true:=fun k ok hk hki hun hno=>by
     refine hfree k ok hk hki ?_ hno
     by_cases hjk:j = k
     ·subst hjk;exact hjun
     ·rw [getD_set_ne true hjk] at hun;exact hun
    refine wpOp_mono (fun a' w' h3=>⟨h3.2.1,ih (listed.setIfInBounds j true) a' w' hfree' (ready_mono hr (Ne.symm hji)) h3.1 h3.2.1 hTi ?_⟩) h2
    rw [Array.setIfInBounds_comm _ _ hji]
    exact h3.2.2
theorem wpAnyT_take {i:Nat} {l:List Nat} {oi:Oper} {v:Value} {fuel:Nat} {listed:Array Bool} {a:Act} {w:World} (hi:ops[i]? = some oi)
 (hs:Region.noSelect ops = true) (hf:Region.free md ops listed i = true) (hr:(Region.ready md ops listed).contains i = true)
 (hT:(l.all fun j=>Region.waitsFor md ops j i) = true) (hTi:l.contains i = false)
 (hQ:∀ c a w,Q (.panic c) (a.put oi.dst v) w → Q (.panic c) a w) (hS:S w) (hy:YieldsS P ops S oi v a)
 (h:wpAnyT P md ops Q S l.contains fuel (listed.setIfInBounds i true) (a.put oi.dst v) w):wpAnyT P md ops Q S l.contains (fuel + 1) listed a w:=
 wpAnyT_first hi (Region.noSelect_spec hs) hQ (fun j hj=>List.all_eq_true.1 hT j (by simpa using hj)) fuel listed a w (Region.free_spec hi hf) (by simpa using hr) hy hS hTi h
theorem wpAnyT_ready {rs:List Nat} {fuel:Nat} {listed:Array Bool} {a:Act} {w:World} (hr:Region.ready md ops listed = rs) (hne:rs ≠ [])
 (h:∀ i ∈ rs,wpOp P ops Q i (fun a' w'=>if T i = true then wpAny P md ops Q fuel (listed.setIfInBounds i true) a' w' else S w' ∧ wpAnyT P md ops Q S T fuel (listed.setIfInBounds i true) a' w') a w):wpAnyT P md ops Q S T (fuel + 1) listed a w:=
 ⟨fun h0=>absurd (hr ▸ h0) hne,hr ▸ h⟩
theorem wpAnyT_one {i:Nat} {fuel:Nat} {listed:Array Bool} {a:Act} {w:World} (hr:Region.ready md ops listed = [i])
 (h:wpOp P ops Q i (fun a' w'=>if T i = true then wpAny P md ops Q fuel (listed.setIfInBounds i true) a' w' else S w' ∧ wpAnyT P md ops Q S T fuel (listed.setIfInBounds i true) a' w') a w):wpAnyT P md ops Q S T (fuel + 1) listed a w:=
 wpAnyT_ready hr (by simp) fun j hj=>by
  obtain rfl:=List.mem_singleton.1 hj
  exact h
theorem wpAnyT_two {i j:Nat} {fuel:Nat} {listed:Array Bool} {a:Act} {w:World} (hr:Region.ready md ops listed = [i,j])
 (h1:wpOp P ops Q i (fun a' w'=>if T i = true then wpAny P md ops Q fuel (listed.setIfInBounds i true) a' w' else S w' ∧ wpAnyT P md ops Q S T fuel (listed.setIfInBounds i true) a' w') a w)
 (h2:wpOp P ops Q j (fun a' w'=>if T j = true then wpAny P md ops Q fuel (listed.setIfInBounds j true) a' w' else S w' ∧ wpAnyT P md ops Q S T fuel (listed.setIfInBounds j true) a' w') a w):wpAnyT P md ops Q S T (fuel + 1) listed a w:=
 wpAnyT_ready hr (by simp) fun k hk=>by
  rcases List.mem_cons.1 hk with rfl | hk
  ·exact h1
  ·obtain rfl:=List.mem_singleton.1 hk
   exact h2
theorem wpOp_keep {i:Nat} {o:Oper} {fuel:Nat} {listed:Array Bool} {a:Act} {w:World} (ho:ops[i]? = some o) (hT:T i = false)
 (h:∀ K':Act → World → Prop,(∀ a' w',S w' → wpAnyT P md ops Q S T fuel (listed.setIfInBounds i true) a' w' → K' a' w') → if Region.wanted o (yielded ops a.tmps) = true then Oper.wp P o a w K' Q else K' (a.put o.dst undef) w) :
 wpOp P ops Q i (fun a' w'=>if T i = true then wpAny P md ops Q fuel (listed.setIfInBounds i true) a' w' else S w' ∧ wpAnyT P md ops Q S T fuel (listed.setIfInBounds i true) a' w') a w:=
 wpOp_step ho fun K' hK'=>h K' fun a' w' hs hw=>hK' a' w' (by rw [if_neg (by rw [hT];decide)];exact ⟨hs,hw⟩)
theorem wpOp_last {i:Nat} {o:Oper} {fuel:Nat} {listed:Array Bool} {a:Act} {w:World} (ho:ops[i]? = some o) (hT:T i = true)
 (h:∀ K':Act → World → Prop,(∀ a' w',wpAny P md ops Q fuel (listed.setIfInBounds i true) a' w' → K' a' w') → if Region.wanted o (yielded ops a.tmps) = true then Oper.wp P o a w K' Q else K' (a.put o.dst undef) w) :
 wpOp P ops Q i (fun a' w'=>if T i = true then wpAny P md ops Q fuel (listed.setIfInBounds i true) a' w' else S w' ∧ wpAnyT P md ops Q S T fuel (listed.setIfInBounds i true) a' w') a w:=
 wpOp_step ho fun K' hK'=>h K' fun a' w' hw=>hK' a' w' (by rw [if_pos hT];exact hw)
end
end Go
