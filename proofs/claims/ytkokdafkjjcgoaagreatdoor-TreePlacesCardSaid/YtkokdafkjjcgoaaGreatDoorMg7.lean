/- What stands in quotes: the program's reader. -/
import Derived.Test.YtkokdafkjjcgoaaGreatDoorMg6
import Derived.Laws.AppendOwn
namespace Go.Proofs.YtkokdafkjjcgoaaGreatDoor
open Go.RowKit
theorem TextAt.grown {w w' b cs T s k} {row:Option Nat} (h:TextAt w b cs T s k) (hg:w.grownBy w' row) (hr:row ≠ some b):TextAt w' b cs T s k:=
 ⟨by rw [hg.block b (lt_of_heap h.blk) (fun e=>hr e.symm)];exact h.blk,h.text,h.two⟩
theorem TextAt.lt {w b cs T s k} (h:TextAt w b cs T s k):b < w.heap.size:=lt_of_heap h.blk
theorem grown_own {w w' w'':World} {b:Nat} {row:Option Nat} (h:w.grownBy w' (some b)) (h':w'.grownBy w'' row) (hr:∀ q,row = some q → w.heap.size ≤ q):w.grownBy w'' (some b):=
 ⟨h'.os.trans h.os,h'.tape.trans h.tape,h'.output.trans h.output,Nat.le_trans h.size h'.size,fun k hk hne=>(h'.block k (Nat.lt_of_lt_of_le hk h.size) (fun e=>by have:=hr k e.symm;omega)).trans (h.block k hk hne)⟩
theorem own_apart {w w':World} {B n b:Nat} {T:TypeId} {sz:Nat} {v:Value} {xs:List Value} (h:w.ownsRow B T sz v n xs) (hg:w.grownBy w' (some b)) (hb:b < B):w'.ownsRow B T sz v n xs:=
 h.kept hg (.inr (by intro e;have:=(h.lt b e).1;omega))
def appQ (l:List UInt8) (n:Nat):QEnd → QEnd
 | .good l' n'=>.good (l ++ l') (n + n')
 | .bad e=>.bad e
theorem appQ_cons (l:List UInt8) (n:Nat) (b:UInt8) (m:Nat) (x:QEnd):appQ l n (consQ b m x) = appQ (l ++ [b]) (n + m) x:=by
 cases x with
 | good l' n'=>simp [appQ,consQ,Nat.add_assoc]
 | bad e=>rfl
theorem appQ_nil (x:QEnd):appQ [] 0 x = x:=by cases x <;> simp [appQ]
def Quoted (w:World) (b:Nat) (cs:Array Value) (T:TypeId) (s:ByteArray) (k:Nat) (r:QEnd) (e:Ending) (w':World):Prop:=
 (match r with
   | .good l n=>∃ v,e = .returned (.tuple #[v,.int .i64 0]) ∧ w'.ownsRow w.heap.size 5 1 v l.length (Lib.byteCells l) ∧ TextAt w' b cs T s (k + n)
   | .bad x=>e = .returned (.tuple #[.slice none 0 0,.int .i64 x])) ∧ w.grownBy w' (some b)
theorem quoted_yes {w w':World} {b k n:Nat} {cs:Array Value} {T:TypeId} {s:ByteArray} {r:QEnd} {l:List UInt8} {v:Value} (hr:r = .good l n) (ho:w'.ownsRow w.heap.size 5 1 v l.length (Lib.byteCells l)) (h:TextAt w' b cs T s (k + n)) (hg:w.grownBy w' (some b)) :
 Quoted w b cs T s k r (.returned (.tuple #[v,.int .i64 0])) w':=by subst hr;exact ⟨⟨v,rfl,ho,h⟩,hg⟩
theorem quoted_no {w w':World} {b k:Nat} {cs:Array Value} {T:TypeId} {s:ByteArray} {r:QEnd} {x:Int} (hr:r = .bad x) (hg:w.grownBy w' (some b)) :
 Quoted w b cs T s k r (.returned (.tuple #[.slice none 0 0,.int .i64 x])) w':=by subst hr;exact ⟨rfl,hg⟩
theorem own_drewN {w:World} {B n:Nat} {T:TypeId} {sz:Nat} {v:Value} {xs:List Value} (h:w.ownsRow B T sz v n xs) (m:Nat):(w.drewN m).ownsRow B T sz v n xs:=h.kept (row:=none) (grown_drewN (grown_refl w none) m) (by cases v.ownBlock <;> simp)
theorem quotedL_end {s:ByteArray} {j:Nat} (q:UInt8) (h:s.size ≤ j):quotedL q (sfx s j) = .bad 71:=by rw [sfx_nil s j h];rfl
theorem quotedL_close {s:ByteArray} {j:Nat} (q:UInt8) (hj:j < s.size) (h:s[j] = q):quotedL q (sfx s j) = .good [] 1:=by rw [sfx_cons s j hj,quotedL_cons,if_pos h]
theorem quotedL_line {s:ByteArray} {j:Nat} (q:UInt8) (hj:j < s.size) (h:s[j] ≠ q) (h10:s[j].toNat = 10):quotedL q (sfx s j) = .bad 71:=by rw [sfx_cons s j hj,quotedL_cons,if_neg h,if_pos h10]
theorem quotedL_none {s:ByteArray} {j:Nat} (q:UInt8) (hj:j < s.size) (h:s[j] ≠ q) (h10:s[j].toNat ≠ 10) (hp:pieceL (sfx s j) = none):quotedL q (sfx s j) = .bad 72:=by
 rw [sfx_cons s j hj] at hp ⊢
 rw [quotedL_cons,if_neg h,if_neg h10,hp]
theorem quotedL_some {s:ByteArray} {j m:Nat} {b:UInt8} (q:UInt8) (hj:j < s.size) (h:s[j] ≠ q) (h10:s[j].toNat ≠ 10) (hp:pieceL (sfx s j) = some (b,m)):quotedL q (sfx s j) = consQ b m (quotedL q (sfx s (j + m))):=by
 rw [← sfx_drop]
 rw [sfx_cons s j hj] at hp ⊢
 rw [quotedL_cons,if_neg h,if_neg h10,hp]
theorem info_u8:(Tryz.prog.info? 5).map (fun i=>(i.zero,i.size,i.bytes)) = some (some (.int .u8 0),1,1):=by kernel_rfl
set_option maxHeartbeats 4000000 in
set_option maxRecDepth 100000 in
theorem quoted_ok (b k:Nat) (cs:Array Value) (T:TypeId) (s:ByteArray) (w:World) (h:TextAt w b cs T s k) (hk:k < s.size) (hs:s.size ≤ 1048576) :
 Calls Tryz.prog 192 #[.pointer (some ⟨b,0,none⟩)] w (Quoted w b cs T s (k + 1) (quotedL s[k] (sfx s (k + 1)))):=by
 have c0:=h.c0
 have c1:=h.c1
 have f1:=h.f1 1
 have H:=Hd h
 have hbw:=h.lt
 clear h
 obtain ⟨r,er⟩:∃ r,r = quotedL s[k] (sfx s (k + 1)):=⟨_,rfl⟩
 rw [← er]
 have ER:=Hd er
 clear er
 go_enter Tryz.func192,Tryz.ntmps192
 go_wp2_with fail
 go_quiet (fail)
 go_wp2_with fail
 go_loopg [5] (s.size - (k + 1)) (fun g v wr=>∃ (j:Nat) (l:List UInt8),k + 1 ≤ j ∧ j ≤ s.size ∧ j + g = s.size ∧ l.length ≤ j ∧ TextAt wr b cs T s j ∧ wr.ownsRow w.heap.size 5 1 v l.length (Lib.byteCells l) ∧ w.grownBy wr (some b) ∧ Hid (r = appQ l (j - (k + 1)) (quotedL s[k] (sfx s j))))
 case atStart=>exact ⟨k + 1,[],Nat.le_refl _,hk,by omega,by simp,H.out.drew.step,World.ownsRow_nil _ _ _ _,grown_set (grown_drewN (grown_refl _ _) _) _ rfl _,by rw [Nat.sub_self,appQ_nil];exact ER.out⟩
 case round=>
  obtain ⟨j,l,hkj,hj,hjg,hlj,hT,hown,hgr,hr⟩:=hrel
  have HT:=Hd hT
  have HO:=Hd hown
  have HG:=Hd hgr
  have hszw:=hgr.size
  have C0:=Hd hT.c0
  have C1:=Hd hT.c1
  have g1:=hT.f1 1
  clear hT hown hgr c0 c1 f1
  by_cases hlt:j < s.size
  ·have hM:=Hd (show decide (j < s.size) = true by simpa using hlt)
   have d0:=C0.out
   have d1:=C1.out
   by_cases hq:s[j] = s[k]
   ·have hfin:=Hd (show r = .good l (j - (k + 1) + 1) by rw [hr.out,quotedL_close _ hlt hq];simp [appQ])
    have t1:((s[j].toNat:Int) == s[k].toNat) = true:=by rw [hq];simp
    clear hq
    go_wp2_with (go_at_call 153;refine (more_is true _ _ _ _ _ _ HT.out hM.out).mono ?_;rintro e w1 ⟨rfl,n,rfl⟩)
    go_quiet (fail)
    go_wp2_with fail
    go_ret2
    exact quoted_yes hfin.out (own_apart (own_drewN HO.out _) (grown_set (grown_refl _ _) _ rfl _) hbw) (by rw [show k + 1 + (j - (k + 1) + 1) = j + 1 by omega];exact HT.out.drew.step) (grown_set (grown_drewN HG.out _) _ rfl _)
   ·have t1:((s[j].toNat:Int) == s[k].toNat) = false:=by
     rw [beq_eq_false_iff_ne];intro e;exact hq (UInt8.toNat_inj.1 (by omega))
    by_cases h10:s[j].toNat = 10
    ·have hfin:=Hd (show r = .bad 71 by rw [hr.out,quotedL_line _ hlt hq h10];rfl)
     have t2:((s[j].toNat:Int) == 10) = true:=by simp [h10]
     clear hq h10
     go_wp2_with (go_at_call 153;refine (more_is true _ _ _ _ _ _ HT.out hM.out).mono ?_;rintro e w1 ⟨rfl,n,rfl⟩)
     go_quiet (fail)
     go_wp2_with fail
     go_ret2
     exact quoted_no hfin.out (grown_drewN HG.out _)
    ·have t2:((s[j].toNat:Int) == 10) = false:=by simp;omega
     have HP:Hid (∀ n,Calls Tryz.prog 223 #[.pointer (some ⟨b,0,none⟩),.int .u8 (s[k].toNat:Int)] (wr.drewN n) (Pieced (wr.drewN n) b cs T s j (pieceL (sfx s j)))):=fun n=>piece_ok b j cs T s s[k] _ HT.out.drew hlt hs hq
     rcases hp:pieceL (sfx s j) with _ | ⟨c,m⟩
     ·have hfin:=Hd (show r = .bad 72 by rw [hr.out,quotedL_none _ hlt hq h10 hp];rfl)
      rw [hp] at HP
      clear hq h10 hp
      go_wp2_with (go_at_call 153;refine (more_is true _ _ _ _ _ _ HT.out hM.out).mono ?_;rintro e w1 ⟨rfl,n,rfl⟩)
      go_quiet (fail)
      go_wp2_with (go_at_call 223;refine (HP.out _).mono ?_;rintro e w1 ⟨rfl,hg1⟩;have HG1:=Hd hg1;clear hg1)
      go_ret2
      exact quoted_no hfin.out (grown_trans (grown_drewN HG.out _) HG1.out)
     ·have hle:=pieceL_le hp
      rw [sfx_length] at hle
      have hfin:=Hd (show r = appQ (l ++ [c]) (j + m - (k + 1)) (quotedL s[k] (sfx s (j + m))) by rw [hr.out,quotedL_some _ hlt hq h10 hp,appQ_cons,show j - (k + 1) + m = j + m - (k + 1) by omega])
      rw [hp] at HP
      clear hq h10 hp
      obtain ⟨i0,hi,hz0,hz1,hz2⟩:=info_parts info_u8
      have HI:=Hd (And.intro hi (And.intro hz0 (And.intro hz1 hz2)))
      clear hi hz0 hz1 hz2
      go_wp2_with (go_at_call 153;refine (more_is true _ _ _ _ _ _ HT.out hM.out).mono ?_;rintro e w1 ⟨rfl,n,rfl⟩)
      go_quiet (fail)
      go_wp2_with (go_at_call 223;refine (HP.out _).mono ?_)
      rintro e w1 ⟨⟨rfl,hT1⟩,hg1⟩
      have HT1:=Hd hT1
      have HG1:=Hd (grown_trans (grown_drewN HG.out _) hg1)
      have HO1:=Hd (own_apart (own_drewN HO.out _) hg1 hbw)
      have hsz1:=HG1.out.size
      clear hT1 hg1 d0 d1 g1
      go_wp2_with (at_builtin;refine wpList_append_own _ rfl _ _ 120 rfl w.heap.size 5 i0 (.int .u8 0) 1 1 Tryz.underlying120 HI.out.1 HI.out.2.1 HI.out.2.2.1 HI.out.2.2.2 rfl (by decide) _ _ _ rfl (HO1.out.alloc _) ⟨w1.heap.size,0,none⟩ 1 1 [.int .u8 (c.toNat:Int)] rfl rfl ?c1 ?c2 ?c3 ?c4 ?c5 ?_)
      case c1=>exact cell_one _ _ _
      case c2=>intro u hu;simp at hu;subst hu;rfl
      case c3=>unfold maxLen;omega
      case c4=>omega
      case c5=>simp;omega
      intro v' w2 hown' hgrow _
      have HO2:=Hd (own_bytes (L:=l ++ [c]) hown' (by simp [Lib.byteCells]))
      have HG2:=Hd (grown_own (grown_below HG1.out ((Below.refl _ _).alloc (Nat.le_refl _) _)) hgrow (fun q hq=>(HO1.out.lt q hq).1))
      have HT2:=Hd ((HT1.out.below ((Below.refl _ _).alloc (Nat.le_refl _) _)).grown hgrow (fun e=>by have:=(HO1.out.lt b e).1;omega))
      clear hown' hgrow
      go_wp2
      go_roundg (s.size - (j + m))
      case measure=>omega
      case rel=>exact ⟨j + m,l ++ [c],by omega,by omega,by omega,by simp;omega,HT2.out,HO2.out,HG2.out,hfin.out⟩
  ·have hM:=Hd (show decide (j < s.size) = false by simpa using hlt)
   have hfin:=Hd (show r = .bad 71 by rw [hr.out,quotedL_end _ (by omega)];rfl)
   go_wp2_with (go_at_call 153;refine (more_is false _ _ _ _ _ _ HT.out hM.out).mono ?_;rintro e w1 ⟨rfl,n,rfl⟩)
   go_ret2
   exact quoted_no hfin.out (grown_drewN HG.out _)
def firstI {α:Type} (p:α → Bool):List α → Option Nat
 | []=>none
 | x :: l=>if p x = true then some 0 else (firstI p l).map (· + 1)
theorem firstI_at {α:Type} {p:α → Bool}:∀ {l:List α} {k:Nat} {x:α},l[k]? = some x → p x = true → (∀ (j:Nat) (y:α),j < k → l[j]? = some y → p y = false) → firstI p l = some k
 | [],k,x,h,_,_=>by simp at h
 | y :: l,0,x,h,hp,_=>by
   simp at h;subst h
   rw [firstI,if_pos hp]
 | y :: l,k + 1,x,h,hp,hn=>by
   have h0:=hn 0 y (by omega) (by simp)
   rw [firstI,if_neg (by simp [h0]),firstI_at (l:=l) (k:=k) (by simpa using h) hp (fun j z hj hz=>hn (j + 1) z (by omega) (by simpa using hz))];rfl
theorem firstI_no {α:Type} {p:α → Bool}:∀ {l:List α},(∀ (j:Nat) (y:α),l[j]? = some y → p y = false) → firstI p l = none
 | [],_=>rfl
 | y :: l,h=>by
   have h0:=h 0 y (by simp)
   rw [firstI,if_neg (by simp [h0]),firstI_no (l:=l) (fun j z hz=>h (j + 1) z (by simpa using hz))];rfl
theorem firstI_find {α:Type} {p:α → Bool}:∀ {l:List α},match firstI p l with
  | some k=>∃ m,l[k]? = some m ∧ l.find? p = some m
  | none=>l.find? p = none
 | []=>rfl
 | y :: l=>by
   have ih:=firstI_find (p:=p) (l:=l)
   rcases hp:p y with _ | _
   ·rw [firstI,if_neg (by simp [hp])]
    rcases hf:firstI p l with _ | k
    ·rw [hf] at ih
     show List.find? p (y :: l) = none
     rw [List.find?_cons,hp];exact ih
    ·rw [hf] at ih
     obtain ⟨m,h1,h2⟩:=ih
     exact ⟨m,by simpa using h1,by rw [List.find?_cons,hp];exact h2⟩
   ·rw [firstI,if_pos hp]
    exact ⟨y,rfl,by rw [List.find?_cons,hp]⟩
def markI (L:List UInt8):Option Nat:=firstI (fun m=>Lib.hasPrefix L m.data.toList) markT
def markX (L:List UInt8):Int:=match markI L with
 | some k=>k
 | none=>-1
theorem markX_at {L:List UInt8} {k:Nat} {x:ByteArray} (h:markT[k]? = some x) (hp:Lib.hasPrefix L x.data.toList = true) (hn:∀ (j:Nat) (y:ByteArray),j < k → markT[j]? = some y → Lib.hasPrefix L y.data.toList = false):Ending.returned (.int .i64 (k:Int)) = .returned (.int .i64 (markX L)):=by
 rw [markX,markI,firstI_at h hp hn]
theorem markX_no {L:List UInt8} (hn:∀ (j:Nat) (y:ByteArray),markT[j]? = some y → Lib.hasPrefix L y.data.toList = false):Ending.returned (.int .i64 (-1)) = .returned (.int .i64 (markX L)):=by
 rw [markX,markI,firstI_no hn]
def Marked (L:List UInt8) (w:World) (e:Ending) (w':World):Prop:=e = .returned (.int .i64 (markX L)) ∧ ∃ n,w' = w.drewN n
set_option maxHeartbeats 2000000 in
set_option maxRecDepth 100000 in
theorem indexFunc_ok (b k:Nat) (cs:Array Value) (T:TypeId) (s:ByteArray) (w:World) (h:TextAt w b cs T s k) (hk:k ≤ s.size) (hM:MarksAt w) :
 Calls Tryz.prog 193 #[.slice (some ⟨0,0,none⟩) 45 45,.func (.func 187) #[.pointer (some ⟨b,0,none⟩)] #[]] w (Marked (sfx s k) w):=by
 have H:=Hd h
 have HM:=Hd hM
 clear h hM
 go_enter Tryz.func193,Tryz.ntmps193
 go_wp2_with fail
 go_loopw [8] (fun v wr=>∃ j:Nat,j ≤ 45 ∧ v = .int .i64 j ∧ Hid (∀ i y,i < j → markT[i]? = some y → Lib.hasPrefix (sfx s k) y.data.toList = false) ∧ ∃ n,wr = w.drewN n) (fun v _=>45 - (intOf v).toNat)
 case atStart=>exact ⟨0,by omega,rfl,fun i y hi=>by omega,0,rfl⟩
 case round=>
  obtain ⟨j,hj,rfl,hno,n,rfl⟩:=hrel
  by_cases hlt:j < 45
  ·have hget:markT[j]? = some (markT.getD j ByteArray.empty):=by rw [List.getElem?_eq_getElem (by rw [markT_length];exact hlt),getD_lt _ _ (by rw [markT_length];exact hlt)]
   have hc:=HM.out j (by rw [markT_length];exact hlt)
   generalize markT.getD j ByteArray.empty = m at hget hc
   have HG:=Hd hget
   rw [Nat.zero_add] at hc
   clear hget
   rcases hp:Lib.hasPrefix (sfx s k) m.data.toList with _ | _
   ·have HP:=Hd hp
    clear hp
    go_wp2_with (go_at_call 187;refine (begins_is false _ _ _ _ _ _ _ H.out.drew hk HP.out).mono ?_;rintro e w1 ⟨rfl,n1,rfl⟩)
    go_roundw
    case rel=>exact ⟨j + 1,by omega,by go_num,fun i y hi hy=>by
     rcases Nat.lt_or_ge i j with h | h
     ·exact hno.out i y h hy
     ·obtain rfl:i = j:=by omega
      have e:=HG.out
      rw [hy] at e
      obtain rfl:=Option.some.inj e
      exact HP.out,_,rfl⟩
    case measure=>simp [intOf];omega
   ·have HP:=Hd hp
    clear hp
    go_wp2_with (go_at_call 187;refine (begins_is true _ _ _ _ _ _ _ H.out.drew hk HP.out).mono ?_;rintro e w1 ⟨rfl,n1,rfl⟩)
    go_ret
    exact ⟨markX_at HG.out HP.out (fun i y hi hy=>hno.out i y hi hy),_,rfl⟩
  ·obtain rfl:j = 45:=by omega
   go_wp2_with fail
   go_ret
   exact ⟨markX_no (fun i y hy=>hno.out i y (by have:=(List.getElem?_eq_some_iff.1 hy).1;rw [markT_length] at this;exact this) hy),_,rfl⟩
theorem indexFunc_is (x:Int) (b k:Nat) (cs:Array Value) (T:TypeId) (s:ByteArray) (w:World) (h:TextAt w b cs T s k) (hk:k ≤ s.size) (hM:MarksAt w) (hx:markX (sfx s k) = x) :
 Calls Tryz.prog 193 #[.slice (some ⟨0,0,none⟩) 45 45,.func (.func 187) #[.pointer (some ⟨b,0,none⟩)] #[]] w fun e w'=>e = .returned (.int .i64 x) ∧ ∃ n,w' = w.drewN n:=by
 subst hx;exact indexFunc_ok b k cs T s w h hk hM
theorem cell_grown {w w':World} {g b o:Nat} {v:Value} (h:w.cell? ⟨g,o,none⟩ = some v) (hg:w.grownBy w' (some b)) (hb:g ≠ b):w'.cell? ⟨g,o,none⟩ = some v:=by
 have hlt:=World.block_lt_of_cell? w _ h
 unfold World.cell? at h ⊢
 rw [hg.block _ hlt (by simpa using hb)];exact h
structure Env (w:World):Prop where
 keys:KeysAt w
 marks:MarksAt w
 errs:ErrsAt w
 maxl:MaxLenAt w
theorem Env.below {w w':World} (h:Env w) (hb:Below w.heap.size w w'):Env w':=⟨h.keys.below hb,h.marks.below hb,h.errs.below hb,h.maxl.below hb⟩
theorem Env.drewN {w:World} (h:Env w) (n:Nat):Env (w.drewN n):=⟨h.keys,h.marks,h.errs,h.maxl⟩
def Apart (b:Nat):Prop:=1 < b ∧ 0 < b ∧ 2 < b ∧ 4 < b ∧ 5 < b
theorem Env.apart {w:World} (h:Env w) {b:Nat} (hb:w.heap.size ≤ b):Apart b:=by
 obtain ⟨⟨a,h1,_⟩,c,h3,_⟩:=h.errs
 obtain ⟨m,h5⟩:=h.maxl
 have e1:=World.block_lt_of_cell? w _ (h.keys 0 (by decide))
 have e2:=World.block_lt_of_cell? w _ (h.marks 0 (by decide))
 have e3:=World.block_lt_of_cell? w _ h1
 have e4:=World.block_lt_of_cell? w _ h3
 have e5:=World.block_lt_of_cell? w _ h5
 simp only at e1 e2 e3 e4 e5
 exact ⟨by omega,by omega,by omega,by omega,by omega⟩
theorem Env.grown {w w':World} {b:Nat} (h:Env w) (hg:w.grownBy w' (some b)) (hb:Apart b):Env w':=by
 obtain ⟨b1,b2,b3,b4,b5⟩:=hb
 obtain ⟨⟨x,h1,h2⟩,y,h3,h4⟩:=h.errs
 obtain ⟨m,h5⟩:=h.maxl
 exact ⟨fun j hj=>cell_grown (h.keys j hj) hg (by omega),fun j hj=>cell_grown (h.marks j hj) hg (by omega),⟨⟨x,cell_grown h1 hg (by omega),h2⟩,y,cell_grown h3 hg (by omega),h4⟩,m,cell_grown h5 hg (by omega)⟩
def OneAt (w:World) (b:Nat) (cs:Array Value) (T:TypeId) (s:ByteArray) (k:Nat) (r:OEnd) (e:Ending) (w':World):Prop:=
 (match r with
   | .good t n=>e = .returned (.tuple #[.agg #[.int .i64 t.kind,.int .i64 t.place,.int .i64 t.num,.string t.text],.int .i64 0]) ∧ TextAt w' b cs T s (k + n)
   | .bad x=>∃ t:Tok,e = .returned (.tuple #[.agg #[.int .i64 t.kind,.int .i64 t.place,.int .i64 t.num,.string t.text],.int .i64 x])) ∧ w.grownBy w' (some b)
theorem one_yes {w w':World} {b k n:Nat} {cs:Array Value} {T:TypeId} {s x:ByteArray} {r:OEnd} {a c d:Int} (t:Tok) (hr:r = .good t n) (ht:a = t.kind ∧ c = t.place ∧ d = t.num ∧ x = t.text) (h:TextAt w' b cs T s (k + n)) (hg:w.grownBy w' (some b)) :
 OneAt w b cs T s k r (.returned (.tuple #[.agg #[.int .i64 a,.int .i64 c,.int .i64 d,.string x],.int .i64 0])) w':=by
 obtain ⟨rfl,rfl,rfl,rfl⟩:=ht
 subst hr;exact ⟨⟨rfl,h⟩,hg⟩
theorem one_noL {w w':World} {b k:Nat} {cs:Array Value} {T:TypeId} {s x:ByteArray} {r:OEnd} {a c d y:Int} (hr:r = .bad y) (hg:w.grownBy w' (some b)) :
 OneAt w b cs T s k r (.returned (.tuple #[.agg #[.int .i64 a,.int .i64 c,.int .i64 d,.string x],.int .i64 y])) w':=by
 subst hr;exact ⟨⟨⟨a,c,d,x⟩,rfl⟩,hg⟩
theorem grown_alloc {w w':World} {b:Nat} {o:Obj} (h:(w.alloc o).grownBy w' (some b)):w.grownBy w' (some b):=
 grown_trans (grown_below (grown_refl _ _) ((Below.refl _ _).alloc (Nat.le_refl _) o)) h
theorem res_block {w w':World} {b:Nat} {o:Obj} (h:(w.alloc o).grownBy w' (some b)) (hb:b < w.heap.size):w'.heap[w.heap.size]? = some o:=by
 rw [h.block _ (by simp) (by simp;omega)];exact heap_alloc_new w o
theorem grown_four {w w':World} {b n:Nat} (h:w.grownBy w' (some b)) (hn:w.heap.size ≤ n) (v0 v1 v2 v3:Value):w.grownBy ((((w'.setCell ⟨n,0,none⟩ v0).setCell ⟨n,1,none⟩ v1).setCell ⟨n,2,none⟩ v2).setCell ⟨n,3,none⟩ v3) (some b):=by
 have key:∀ {x:World} (a:Addr) (v:Value),a.block = n → w.grownBy x (some b) → w.grownBy (x.setCell a v) (some b):=fun a v ha hx=>
  ⟨hx.os,hx.tape,hx.output,by simpa [World.setCell] using hx.size,fun k hk hne=>by rw [Below.heap_setCell _ _ _ _ (by rw [ha];omega),hx.block k hk hne]⟩
 exact key _ _ rfl (key _ _ rfl (key _ _ rfl (key _ _ rfl h)))
theorem text_four {w b cs T s k} {n:Nat} (h:TextAt w b cs T s k) (hn:b ≠ n) (v0 v1 v2 v3:Value):TextAt ((((w.setCell ⟨n,0,none⟩ v0).setCell ⟨n,1,none⟩ v1).setCell ⟨n,2,none⟩ v2).setCell ⟨n,3,none⟩ v3) b cs T s k:=by
 refine ⟨?_,h.text,h.two⟩
 rw [Below.heap_setCell _ _ _ _ (by simpa using hn),Below.heap_setCell _ _ _ _ (by simpa using hn),Below.heap_setCell _ _ _ _ (by simpa using hn),Below.heap_setCell _ _ _ _ (by simpa using hn)]
 exact h.blk
theorem sfx_take_word (s:ByteArray) (k:Nat):(s.extract k (k + wlen (s.data.toList.drop k))).data.toList = (sfx s k).take (wlen (sfx s k)):=extract_take s k _
theorem strOf_word (s:ByteArray) (k:Nat):strOf ((sfx s k).take (wlen (sfx s k))) = s.extract k (k + wlen (s.data.toList.drop k)):=toList_eq (by rw [sfx_take_word];rfl)
theorem oneL_word {s:ByteArray} {k:Nat} (hk:k < s.size) (h:letB s[k] = true):oneL (sfx s k) = wordE (sfx s k):=by
 rw [sfx_cons s k hk,oneL,if_pos h]
set_option maxHeartbeats 4000000 in
set_option maxRecDepth 100000 in
theorem one_letter (b k:Nat) (cs:Array Value) (T:TypeId) (s:ByteArray) (w:World) (h:TextAt w b cs T s k) (hk:k < s.size) (hs:s.size ≤ 1048576) (hE:Env w) (hA:Apart b) (hl:letB s[k] = true) :
 Calls Tryz.prog 154 #[.pointer (some ⟨b,0,none⟩)] w (OneAt w b cs T s k (oneL (sfx s k))):=by
 have hbw:=h.lt
 have H:=Hd (h.below ((Below.refl w.heap.size w).alloc (Nat.le_refl _) (.cells #[.int .i64 0,.int .i64 0,.int .i64 0,.string ⟨#[]⟩] 151)))
 have HE:=Hd (hE.below ((Below.refl w.heap.size w).alloc (Nat.le_refl _) (.cells #[.int .i64 0,.int .i64 0,.int .i64 0,.string ⟨#[]⟩] 151)))
 have HA:=Hd hA
 have c0:=h.c0
 have c1:=h.c1
 obtain ⟨r,er⟩:∃ r,r = oneL (sfx s k):=⟨_,rfl⟩
 rw [← er]
 have ER:=Hd (er.trans (oneL_word hk hl))
 have HL:=Hd hl
 clear er hl hA hE h
 go_enter Tryz.func154,Tryz.ntmps154
 go_wp2_with fail
 go_quiet (fail)
 go_wp2_with (first
  | (go_at_call 167;refine (lexLetter_is true _ _ HL.out).mono ?_;rintro e w' ⟨rfl,rfl⟩)
  | (go_at_call 168;refine (word_ok b k cs T s _ H.out.drew (by omega) hs).mono ?_))
 rintro e w1 ⟨rfl,hT1,hg1⟩
 have HT1:=Hd hT1
 have HG1:=Hd (grown_trans (grown_drewN (grown_refl _ _) _) hg1)
 clear hT1 hg1
 have HE1:=Hd (HE.out.grown HG1.out HA.out)
 have HW:=Hd (strOf_word s k)
 obtain ⟨⟨a0,a1,a2,a3⟩,fa⟩:=tok_block (res_block HG1.out hbw)
 have fa0:=fa 0
 have fa1:=fa 1
 have fa2:=fa 2
 have fa3:=fa 3
 clear fa c0 c1
 have HSz:=Hd (show (s.extract k (k + wlen (s.data.toList.drop k))).size = wlen (sfx s k) by
  have:=(word_end (s:=s) (a:=k) (by omega)).1
  rw [ByteArray.size_extract];show _ = wlen (s.data.toList.drop k);omega)
 generalize s.extract k (k + wlen (s.data.toList.drop k)) = x at HW HSz ⊢
 rcases hkey:isKeyB x with _ | _
 ·have HKey:=Hd hkey
  clear hkey
  by_cases h31:31 < x.size
  ·have hfin:=Hd (show r = .bad 3 by rw [ER.out,wordE,HW.out,HKey.out,if_neg (by simp),if_pos (by rw [← HSz.out];exact h31)])
   go_wp2_with (go_at_call 169;refine (lexIsKey_ok x _ HE1.out.keys).mono ?_;rintro e w' ⟨rfl,rfl⟩;rw [HKey.out])
   exact bodyPost_ret (v:=.tuple #[.agg #[.int .i64 0,.int .i64 0,.int .i64 0,.string ⟨#[]⟩],.int .i64 3]) (by simp [results,Tryz.results154,go_sem,a0,a1,a2,a3]) rfl (one_noL hfin.out (grown_four (grown_alloc HG1.out) (Nat.le_refl _) _ _ _ _))
  ·have hfin:=Hd (show r = .good ⟨1,0,0,x⟩ (wlen (sfx s k)) by rw [ER.out,wordE,HW.out,HKey.out,if_neg (by simp),if_neg (by rw [← HSz.out];exact h31)])
   go_wp2_with (go_at_call 169;refine (lexIsKey_ok x _ HE1.out.keys).mono ?_;rintro e w' ⟨rfl,rfl⟩;rw [HKey.out])
   exact bodyPost_ret (v:=.tuple #[.agg #[.int .i64 1,.int .i64 0,.int .i64 0,.string x],.int .i64 0]) (by simp [results,Tryz.results154,go_sem,a0,a1,a2,a3]) rfl (one_yes ⟨1,0,0,x⟩ hfin.out ⟨rfl,rfl,rfl,rfl⟩ (text_four HT1.out (by omega) _ _ _ _) (grown_four (grown_alloc HG1.out) (Nat.le_refl _) _ _ _ _))
 ·have HKey:=Hd hkey
  clear hkey
  have hfin:=Hd (show r = .good ⟨2,0,0,x⟩ (wlen (sfx s k)) by rw [ER.out,wordE,HW.out,HKey.out,if_pos rfl])
  go_wp2_with (go_at_call 169;refine (lexIsKey_ok x _ HE1.out.keys).mono ?_;rintro e w' ⟨rfl,rfl⟩;rw [HKey.out])
  exact bodyPost_ret (v:=.tuple #[.agg #[.int .i64 2,.int .i64 0,.int .i64 0,.string x],.int .i64 0]) (by simp [results,Tryz.results154,go_sem,a0,a1,a2,a3]) rfl (one_yes ⟨2,0,0,x⟩ hfin.out ⟨rfl,rfl,rfl,rfl⟩ (text_four HT1.out (by omega) _ _ _ _) (grown_four (grown_alloc HG1.out) (Nat.le_refl _) _ _ _ _))
theorem wlen_take:∀ (L:List UInt8) (m:Nat),wlen L ≤ m → wlen (L.take m) = wlen L
 | [],m,_=>by simp
 | c :: l,0,h=>by
   by_cases hc:wordB c = true
   ·rw [wlen,if_pos hc] at h;omega
   ·rw [List.take_zero]
    rw [wlen,wlen,if_neg hc]
 | c :: l,m + 1,h=>by
   rw [List.take_succ_cons]
   by_cases hc:wordB c = true
   ·rw [wlen,if_pos hc] at h
    rw [wlen,wlen,if_pos hc,if_pos hc,wlen_take l m (by omega)]
   ·rw [wlen,wlen,if_neg hc,if_neg hc]
theorem consQ_good {b:UInt8} {m n:Nat} {x:QEnd} {l:List UInt8} (h:consQ b m x = .good l n):∃ l' n',x = .good l' n' ∧ l = b :: l' ∧ n = m + n':=by
 cases x with
 | good l' n'=>
   simp only [consQ,QEnd.good.injEq] at h
   exact ⟨l',n',rfl,h.1.symm,h.2.symm⟩
 | bad e=>cases h
theorem quotedL_le (q:UInt8):∀ (k:Nat) (L:List UInt8),L.length ≤ k → ∀ {l:List UInt8} {n:Nat},quotedL q L = .good l n → 0 < n ∧ n ≤ L.length
 | k,[],_,l,n,h=>by rw [quotedL_nil] at h;cases h
 | 0,c :: r,hk,_,_,_=>by simp at hk
 | k + 1,c :: r,hk,l,n,h=>by
   rw [quotedL_cons] at h
   split at h
   ·simp only [QEnd.good.injEq] at h;simp;omega
   ·split at h
    ·cases h
    ·split at h
     ·cases h
     ·rename_i b j hp
      have hj:=pieceL_le hp
      obtain ⟨l',n',h1,_,h3⟩:=consQ_good h
      have:=quotedL_le q k ((c :: r).drop j) (by rw [List.length_drop];simp at hk ⊢;omega) h1
      rw [List.length_drop] at this
      omega
theorem charE_good {x:QEnd} {t:Tok} {n:Nat} (h:charE x = .good t n):∃ b j,x = .good [b] j ∧ n = j + 1 ∧ t = ⟨3,0,sgn b,⟨#[]⟩⟩:=by
 match x,h with
 | .bad e,h=>cases h
 | .good [] _,h=>cases h
 | .good [b] j,h=>simp only [charE,OEnd.good.injEq] at h;exact ⟨b,j,rfl,h.2.symm,h.1.symm⟩
 | .good (_ :: _ :: _) _,h=>cases h
theorem strE_good {x:QEnd} {t:Tok} {n:Nat} (h:strE x = .good t n):∃ l j,x = .good l j ∧ n = j + 1 ∧ t = ⟨4,0,0,strOf l⟩:=by
 match x,h with
 | .bad e,h=>cases h
 | .good l j,h=>simp only [strE,OEnd.good.injEq] at h;exact ⟨l,j,rfl,h.2.symm,h.1.symm⟩
theorem wlen_pos {c:UInt8} {l:List UInt8} (h:wordB c = true):0 < wlen (c :: l):=by rw [wlen,if_pos h];omega
theorem markT_pos:∀ x ∈ markT,0 < x.size:=by decide
theorem oneL_le {L:List UInt8} {t:Tok} {n:Nat} (h:oneL L = .good t n):0 < n ∧ n ≤ L.length:=by
 match L,h with
 | [],h=>cases h
 | c :: l,h=>
   rw [oneL] at h
   split at h
   ·rename_i hc
    have h1:0 < wlen (c :: l):=wlen_pos (by simp [wordB,hc])
    have h2:=wlen_le (c :: l)
    unfold wordE at h
    repeat' split at h
    all_goals first
     | (cases h;done)
     | (have:=(OEnd.good.inj h).2;omega)
   ·split at h
    ·rename_i hc
     have h1:0 < wlen (c :: l):=wlen_pos (by simp [wordB,hc])
     have h2:=wlen_le (c :: l)
     unfold numE at h
     split at h
     ·cases h
     ·have:=(OEnd.good.inj h).2;omega
    ·split at h
     ·obtain ⟨b,j,h1,h2,_⟩:=charE_good h
      have:=quotedL_le 39 _ _ (Nat.le_refl _) h1
      simp;omega
     ·split at h
      ·obtain ⟨b,j,h1,h2,_⟩:=strE_good h
       have:=quotedL_le 34 _ _ (Nat.le_refl _) h1
       simp;omega
      ·unfold markE at h
       rcases hf:markT.find? (fun m=>m.data.toList.isPrefixOf (c :: l)) with _ | x
       ·rw [hf] at h;cases h
       ·rw [hf] at h
        simp only [OEnd.good.injEq] at h
        have h1:=markT_pos x (List.mem_of_find?_eq_some hf)
        have h2:=List.find?_some hf
        rw [List.isPrefixOf_iff_prefix] at h2
        have h3:=h2.length_le
        rw [Array.length_toList] at h3
        have h4:x.size ≤ (c :: l).length:=h3
        omega
end Go.Proofs.YtkokdafkjjcgoaaGreatDoor
