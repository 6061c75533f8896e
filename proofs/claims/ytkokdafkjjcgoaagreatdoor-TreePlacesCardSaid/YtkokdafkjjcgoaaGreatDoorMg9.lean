/- The program's tokens, as the statements ask for them; what t -/
import Derived.Test.YtkokdafkjjcgoaaGreatDoorTokens
import Derived.LaidLaws
namespace Go.Proofs.YtkokdafkjjcgoaaGreatDoor
open Go.RowKit
theorem maxl_shaped {w:World} (h:w.ShapedOpen Tryz.prog):MaxLenAt w:=Tryz.laysM143.s1_3 w h
theorem errSG:Tryz.prog.globalNamed "strconv.ErrSyntax" = some 4:=by kernel_rfl
theorem errST:(Tryz.prog.globals[4]?).map (·.type) = some 126:=by kernel_rfl
theorem errRG:Tryz.prog.globalNamed "strconv.ErrRange" = some 5:=by kernel_rfl
theorem errRT:(Tryz.prog.globals[5]?).map (·.type) = some 126:=by kernel_rfl
theorem err_laid {w:World} {l:List (String × DataW Unit)} {n nm:String} {g:Nat} {d:DataW Unit} (h:laidMet Tryz.prog l w) (hG:Tryz.prog.globalNamed n = some g) (hT:(Tryz.prog.globals[g]?).map (·.type) = some 126) (hm:(n,DataW.iface nm d) ∈ l) :
 ∃ ev,w.cell? ⟨g,0,none⟩ = some ev ∧ (ev = .nilIface ∨ ∃ te pe,ev = .iface te pe):=by
 obtain ⟨ps,hv,_⟩:=h
 obtain ⟨g',t,cs,fuel,p,h1,h2,h3,h4⟩:=laidVars_mem hv _ _ hm
 obtain rfl:=Option.some.inj (hG.symm.trans h1)
 obtain rfl:=Option.some.inj (hT.symm.trans h2)
 obtain ⟨_,u,v,hc,_⟩:=iface_of_trod Tryz.underlying126 h4
 refine ⟨.iface u v,?_,.inr ⟨u,v,rfl⟩⟩
 rw [World.var?_cell hG h3 0]
 have:cs.toList[0]? = some (.iface u v):=by rw [hc];rfl
 simpa using this
theorem env_laid {w:World} {l:List (String × DataW Unit)} (h:laidMet Tryz.prog l w) (hs:w.ShapedOpen Tryz.prog) (h1:("strconv.ErrRange",Rows.laid_strconv_ErrRange) ∈ l) (h2:("strconv.ErrSyntax",Rows.laid_strconv_ErrSyntax) ∈ l)
 (h3:("catapult/lex.keys",Rows.laid_catapult_lex_keys) ∈ l) (h4:("catapult/lex.marks",Rows.laid_catapult_lex_marks) ∈ l):Env w:=
 ⟨keys_laid h h3,marks_laid h h4,⟨err_laid h errSG errST h2,err_laid h errRG errRT h1⟩,maxl_shaped hs⟩
def tabCells:DataW Unit → Array Value
 | .agg l=>(l.map fun d=>match d with
   | .lit (.int k n)=>Value.int k n
   | .lit (.string s)=>Value.string ⟨s.toArray⟩
   | _=>Value.bool false).toArray
 | _=>#[]
noncomputable def envWorld (os:Os):World:=
 let N:=(World.settled Tryz.prog os).heap.size
 let w0:=World.holding Tryz.prog os ⟨#[.cells #[.string ⟨#[118,97,108,117,101,32,111,117,116,32,111,102,32,114,97,110,103,101]⟩] 301,.cells #[.string ⟨#[105,110,118,97,108,105,100,32,115,121,110,116,97,120]⟩] 301],#[],[]⟩
 let put (h:Array Obj) (g:Nat) (cs:Array Value):Array Obj:=h.modify g fun
  | .cells _ t frozen=>.cells cs t frozen
  | o=>o
 let h0:=put (put w0.heap 1 (keyT.map Value.string).toArray) 0 (markT.map Value.string).toArray
 let h1:=put h0 3 ((List.range 20).map fun i=>Value.int .u64 ((10 ^ i:Nat):Int)).toArray
 let h2:=put (put h1 6 (tabCells Rows.laid_math_bits_deBruijn32tab)) 7 (tabCells Rows.laid_math_bits_deBruijn64tab)
 let h3:=put (put h2 5 #[.iface 299 (.pointer (some ⟨N,0,none⟩))]) 4 #[.iface 299 (.pointer (some ⟨N + 1,0,none⟩))]
 { w0 with heap:=h3 }
end Go.Proofs.YtkokdafkjjcgoaaGreatDoor
namespace Go.Proofs.YtkokdafkjjcgoaaGreatDoor
inductive Ty where
 | base (c:UInt8)
 | ptr (t:Ty)
 | arr (n:Nat) (t:Ty)
 | str (s:List UInt8)
 | fn (ps:List Ty) (r:Ty)
def valT (l:List UInt8):Nat:=l.foldl (fun n c=>10 * n + (c.toNat - 48)) 0
def numT (l:List UInt8):Option Nat:=
 if l = [] ∨ 15 < l.length ∨ (1 < l.length ∧ l.head? = some 48) then none
 else if l.all digB = true ∧ valT l ≤ 1099511627776 then some (valT l) else none
def cutAt (c:UInt8):List UInt8 → Option (List UInt8 × List UInt8)
 | []=>none
 | x :: l=>if x = c then some ([],l) else (cutAt c l).map fun q=>(x :: q.1,q.2)
def isBase (c:UInt8):Bool:=[118,99,115,105,117,106].contains c
def nameL (l:List UInt8):Bool:=isNameB ⟨l.toArray⟩
def behind (c:UInt8):List UInt8 → Option (List UInt8)
 | []=>none
 | x :: l=>if x = c then some l else none
theorem behind_some {c:UInt8} {l r:List UInt8} (h:behind c l = some r):l = c :: r:=by
 match l,h with
 | [],h=>cases h
 | x :: l,h=>
   rw [behind] at h
   split at h
   ·rename_i e;rw [e,Option.some.inj h]
   ·cases h
mutual
def tyF:Nat → List UInt8 → Option (Ty × List UInt8)
 | 0,_=>none
 | _ + 1,[]=>none
 | k + 1,c :: l=>
   if isBase c = true then some (.base c,l)
   else if c = 112 then (tyF k l).map fun q=>(.ptr q.1,q.2)
   else if c = 97 then
    (cutAt 58 l).bind fun q=>(numT q.1).bind fun n=>(tyF k q.2).map fun x=>(.arr n x.1,x.2)
   else if c = 83 then (cutAt 59 l).bind fun q=>if nameL q.1 = true then some (.str q.1,q.2) else none
   else if c = 102 then (behind 40 l).bind fun r=>(parsF k r).bind fun q=>(tyF k q.2).map fun x=>(.fn q.1 x.1,x.2)
   else none
def parsF:Nat → List UInt8 → Option (List Ty × List UInt8)
 | 0,_=>none
 | _ + 1,[]=>none
 | k + 1,c :: r=>if c = 41 then some ([],r) else moreF k (c :: r)
def moreF:Nat → List UInt8 → Option (List Ty × List UInt8)
 | 0,_=>none
 | k + 1,l=>
   (tyF k l).bind fun q=>match q.2 with
   | 41 :: r=>some ([q.1],r)
   | 44 :: r=>(moreF k r).map fun x=>(q.1 :: x.1,x.2)
   | _=>none
end
mutual
def code:Ty → List UInt8
 | .base c=>[c]
 | .ptr t=>112 :: code t
 | .arr n t=>97 :: (Lib.decDigits n ++ 58 :: code t)
 | .str s=>83 :: (s ++ [59])
 | .fn ps r=>102 :: 40 :: (codes ps ++ 41 :: code r)
def codes:List Ty → List UInt8
 | []=>[]
 | t :: l=>code t ++ codes' l
def codes':List Ty → List UInt8
 | []=>[]
 | t :: l=>44 :: (code t ++ codes' l)
end
mutual
def Right:Ty → Prop
 | .base c=>isBase c = true
 | .ptr t=>Right t
 | .arr n t=>n ≤ 1099511627776 ∧ Right t
 | .str s=>nameL s = true
 | .fn ps r=>Rights ps ∧ Right r
def Rights:List Ty → Prop
 | []=>True
 | t :: l=>Right t ∧ Rights l
end
mutual
def deepT:Ty → Nat
 | .base _=>1
 | .ptr t=>deepT t + 1
 | .arr _ t=>deepT t + 1
 | .str _=>1
 | .fn ps r=>max (deepL ps) (deepT r) + 1
def deepL:List Ty → Nat
 | []=>0
 | t :: l=>max (deepT t) (deepL l)
end
theorem cutAt_some {c:UInt8}:∀ {l w r:List UInt8},cutAt c l = some (w,r) → l = w ++ c :: r ∧ c ∉ w
 | [],w,r,h=>by cases h
 | x :: l,w,r,h=>by
   rw [cutAt] at h
   split at h
   ·rename_i e
    simp only [Option.some.injEq,Prod.mk.injEq] at h
    obtain ⟨rfl,rfl⟩:=h
    subst e
    simp
   ·rename_i e
    rw [Option.map_eq_some_iff] at h
    obtain ⟨⟨w',r'⟩,h1,h2⟩:=h
    simp only [Prod.mk.injEq] at h2
    obtain ⟨rfl,rfl⟩:=h2
    obtain ⟨rfl,h3⟩:=cutAt_some h1
    exact ⟨rfl,by simp [h3];exact fun e'=>e e'.symm⟩
theorem cutAt_mk {c:UInt8}:∀ {w r:List UInt8},c ∉ w → cutAt c (w ++ c :: r) = some (w,r)
 | [],r,_=>by simp [cutAt]
 | x :: w,r,h=>by
   rw [List.cons_append,cutAt,if_neg (fun e=>h (by simp [e])),cutAt_mk (fun e=>h (by simp [e]))]
   rfl
theorem cutAt_none {c:UInt8}:∀ {l:List UInt8},cutAt c l = none ↔ c ∉ l
 | []=>by simp [cutAt]
 | x :: l=>by
   rw [cutAt]
   split
   ·rename_i e;simp [e]
   ·rename_i e
    rw [Option.map_eq_none_iff,cutAt_none]
    simp
    exact fun _ e'=>e e'.symm
theorem valT_snoc (l:List UInt8) (c:UInt8):valT (l ++ [c]) = 10 * valT l + (c.toNat - 48):=by simp [valT,List.foldl_append]
theorem digit_ofNat {c:UInt8} (h:digB c = true):UInt8.ofNat (48 + (c.toNat - 48) % 10) = c:=by
 unfold digB at h
 rw [decide_eq_true_iff] at h
 have:48 + (c.toNat - 48) % 10 = c.toNat:=by omega
 rw [this];simp
theorem dec_of:∀ (n:Nat) (l:List UInt8),l.length = n → l ≠ [] → l.all digB = true → (1 < l.length → l.head? ≠ some 48) → Lib.decDigits (valT l) = l
 | 0,l,hn,h0,_,_=>by simp at hn;exact absurd hn h0
 | n + 1,l,hn,h0,hd,h1=>by
   rcases List.eq_nil_or_concat l with rfl | ⟨m,c,rfl⟩
   ·exact absurd rfl h0
   ·rw [List.concat_eq_append] at *
    rw [List.all_append,Bool.and_eq_true] at hd
    obtain ⟨hm,hc⟩:=hd
    have hc':digB c = true:=by simpa using hc
    have hd:=digit_ofNat hc'
    have hb:c.toNat - 48 < 10:=by unfold digB at hc';rw [decide_eq_true_iff] at hc';omega
    rw [valT_snoc]
    by_cases hm0:m = []
    ·subst hm0
     have hv:valT [] = 0:=rfl
     rw [hv,Lib.decDigits,dif_pos (by omega)]
     rw [Nat.mod_eq_of_lt hb] at hd
     simp [hd]
    ·have hl:1 < (m ++ [c]).length:=by
      have:=List.length_pos_iff.2 hm0
      simp;omega
     have hh:=h1 hl
     rw [List.head?_append,List.head?_eq_some_head hm0] at hh
     have ih:=dec_of n m (by simpa using hn) hm0 hm (fun _=>by rw [List.head?_eq_some_head hm0];simpa using hh)
     have hv:valT m ≠ 0:=fun e=>by
      rw [e,Lib.decDigits,dif_pos (by omega)] at ih
      subst ih
      simp at hh
     rw [Lib.decDigits,dif_neg (by omega),show (10 * valT m + (c.toNat - 48)) / 10 = valT m by omega,ih,show (10 * valT m + (c.toNat - 48)) % 10 = (c.toNat - 48) % 10 by omega,hd]
theorem dec_digits (n:Nat):(Lib.decDigits n).all digB = true ∧ valT (Lib.decDigits n) = n ∧ Lib.decDigits n ≠ [] ∧ (1 < (Lib.decDigits n).length → (Lib.decDigits n).head? ≠ some 48) ∧ (0 < n → (Lib.decDigits n).head? ≠ some 48):=by
 induction n using Nat.strongRecOn with
 | ind n ih=>
   have hk:∀ d,d < 10 → (UInt8.ofNat (48 + d)).toNat = 48 + d:=fun d h=>by
    rw [UInt8.toNat_ofNat'];omega
   rw [Lib.decDigits]
   split
   ·rename_i h
    have:=hk n h
    refine ⟨by rw [List.all_cons,digB,this];simp;omega,by show 10 * 0 + ((UInt8.ofNat (48 + n)).toNat - 48) = n;rw [this];omega,by simp,by simp,fun h0=>?_⟩
    simp only [List.head?_cons,ne_eq,Option.some.injEq]
    intro e
    have e':=congrArg UInt8.toNat e
    rw [this] at e'
    simp at e'
    omega
   ·rename_i h
    obtain ⟨h1,h2,h3,h4,h5⟩:=ih (n / 10) (by omega)
    have:=hk (n % 10) (by omega)
    have hh:(Lib.decDigits (n / 10) ++ [UInt8.ofNat (48 + n % 10)]).head? ≠ some 48:=by
     rw [List.head?_append,List.head?_eq_some_head h3]
     have:=h5 (by omega)
     rw [List.head?_eq_some_head h3] at this
     simpa using this
    refine ⟨?_,?_,by simp,fun _=>hh,fun _=>hh⟩
    ·rw [List.all_append,h1,List.all_cons,digB,this];simp;omega
    ·rw [valT_snoc,h2,this];omega
theorem dec_len {n:Nat} (hn:n ≤ 1099511627776):(Lib.decDigits n).length ≤ 15:=by
 have key:∀ (d u:Nat),u < 10 ^ d → 1 ≤ d → (Lib.decDigits u).length ≤ d:=by
  intro d
  induction d with
  | zero=>intro u _ h;omega
  | succ d ih=>
    intro u hu _
    rw [Lib.decDigits]
    split
    ·simp
    ·rename_i h10
     have h1:1 ≤ d:=by
      rcases Nat.eq_zero_or_pos d with rfl | h
      ·simp at hu;omega
      ·exact h
     have:=ih (u / 10) (by rw [Nat.pow_succ] at hu;omega) h1
     simp only [List.length_append,List.length_cons,List.length_nil]
     omega
 exact key 15 n (by omega) (by decide)
theorem numT_some {l:List UInt8} {n:Nat} (h:numT l = some n):l = Lib.decDigits n ∧ n ≤ 1099511627776:=by
 unfold numT at h
 split at h
 ·cases h
 ·rename_i h1
  split at h
  ·rename_i h2
   obtain rfl:=Option.some.inj h
   have h3:l ≠ []:=fun e=>h1 (.inl e)
   exact ⟨(dec_of _ l rfl h3 h2.1 (fun a b=>h1 (.inr (.inr ⟨a,b⟩)))).symm,h2.2⟩
  ·cases h
theorem numT_mk {n:Nat} (hn:n ≤ 1099511627776):numT (Lib.decDigits n) = some n:=by
 obtain ⟨h1,h2,h3,h4,_⟩:=dec_digits n
 have h5:=dec_len hn
 unfold numT
 rw [if_neg (by rintro (h | h | h);exact h3 h;omega;exact h4 h.1 h.2),if_pos ⟨h1,by rw [h2];exact hn⟩,h2]
theorem base_ne {c:UInt8} (h:isBase c = true):c ≠ 41 ∧ c ≠ 44 ∧ c ≠ 112 ∧ c ≠ 97 ∧ c ≠ 83 ∧ c ≠ 102 ∧ c ≠ 58 ∧ c ≠ 59:=by
 unfold isBase at h
 rw [List.contains_iff_mem] at h
 simp at h
 rcases h with rfl | rfl | rfl | rfl | rfl | rfl <;> decide
theorem codes_cons (t:Ty) (l:List Ty):codes (t :: l) = code t ++ codes' l:=by rw [codes]
theorem codes'_cons (t:Ty) (l:List Ty):codes' (t :: l) = 44 :: codes (t :: l):=by rw [codes',codes]
theorem tyF_code:∀ k,(∀ l t r,tyF k l = some (t,r) → l = code t ++ r ∧ Right t) ∧ (∀ l ps r,parsF k l = some (ps,r) → l = codes ps ++ 41 :: r ∧ Rights ps) ∧ (∀ l ps r,moreF k l = some (ps,r) → l = codes ps ++ 41 :: r ∧ Rights ps ∧ ps ≠ [])
 | 0=>⟨(fun l t r h=>by rw [tyF] at h;cases h),(fun l t r h=>by rw [parsF] at h;cases h),(fun l t r h=>by rw [moreF] at h;cases h)⟩
 | k + 1=>by
   obtain ⟨i1,i2,i3⟩:=tyF_code k
   refine ⟨?_,?_,?_⟩
   ·intro l t r h
    match l,h with
    | [],h=>rw [tyF] at h;cases h
    | c :: l,h=>
      rw [tyF] at h
      split at h
      ·rename_i hb
       obtain ⟨rfl,rfl⟩:=Prod.mk.inj (Option.some.inj h)
       exact ⟨rfl,hb⟩
      ·split at h
       ·rename_i hc
        subst hc
        obtain ⟨⟨t',r'⟩,h1,h2⟩:=Option.map_eq_some_iff.1 h
        obtain ⟨rfl,rfl⟩:=Prod.mk.inj h2
        obtain ⟨rfl,h3⟩:=i1 _ _ _ h1
        exact ⟨rfl,h3⟩
       ·split at h
        ·rename_i hc
         subst hc
         obtain ⟨⟨w,q⟩,h1,h2⟩:=Option.bind_eq_some_iff.1 h
         obtain ⟨n,h3,h4⟩:=Option.bind_eq_some_iff.1 h2
         obtain ⟨⟨t',r'⟩,h5,h6⟩:=Option.map_eq_some_iff.1 h4
         obtain ⟨rfl,rfl⟩:=Prod.mk.inj h6
         obtain ⟨rfl,_⟩:=cutAt_some h1
         obtain ⟨rfl,h7⟩:=numT_some h3
         obtain ⟨rfl,h8⟩:=i1 _ _ _ h5
         exact ⟨by simp [code],h7,h8⟩
        ·split at h
         ·rename_i hc
          subst hc
          obtain ⟨⟨w,q⟩,h1,h2⟩:=Option.bind_eq_some_iff.1 h
          split at h2
          ·rename_i hn
           obtain ⟨rfl,rfl⟩:=Prod.mk.inj (Option.some.inj h2)
           obtain ⟨rfl,_⟩:=cutAt_some h1
           exact ⟨by simp [code],hn⟩
          ·cases h2
         ·split at h
          ·rename_i hc
           subst hc
           obtain ⟨q,h0,hq⟩:=Option.bind_eq_some_iff.1 h
           obtain rfl:=behind_some h0
           obtain ⟨⟨ps,x⟩,h1,h2⟩:=Option.bind_eq_some_iff.1 hq
           obtain ⟨⟨t',r'⟩,h3,h4⟩:=Option.map_eq_some_iff.1 h2
           obtain ⟨rfl,rfl⟩:=Prod.mk.inj h4
           obtain ⟨rfl,h5⟩:=i2 _ _ _ h1
           obtain ⟨h6,h7⟩:=i1 _ _ _ h3
           simp only at h6
           subst h6
           exact ⟨by simp [code],h5,h7⟩
          ·cases h
   ·intro l ps r h
    match l,h with
    | [],h=>rw [parsF] at h;cases h
    | c :: l,h=>
      rw [parsF] at h
      split at h
      ·rename_i hc
       obtain ⟨rfl,rfl⟩:=Prod.mk.inj (Option.some.inj h)
       subst hc
       exact ⟨by simp [codes],trivial⟩
      ·obtain ⟨h1,h2,_⟩:=i3 _ _ _ h
       exact ⟨h1,h2⟩
   ·intro l ps r h
    rw [moreF] at h
    obtain ⟨⟨t,q⟩,h1,h2⟩:=Option.bind_eq_some_iff.1 h
    obtain ⟨rfl,h3⟩:=i1 _ _ _ h1
    simp only at h2
    split at h2
    ·obtain ⟨rfl,rfl⟩:=Prod.mk.inj (Option.some.inj h2)
     exact ⟨by simp [codes,codes'],⟨h3,trivial⟩,by simp⟩
    ·obtain ⟨⟨ps',r'⟩,h4,h5⟩:=Option.map_eq_some_iff.1 h2
     obtain ⟨rfl,rfl⟩:=Prod.mk.inj h5
     obtain ⟨rfl,h6,h7⟩:=i3 _ _ _ h4
     obtain ⟨t',l',rfl⟩:=List.exists_cons_of_ne_nil h7
     refine ⟨?_,⟨h3,h6⟩,by simp⟩
     rw [codes_cons t,codes'_cons];simp
    ·cases h2
theorem code_head (t:Ty) (h:Right t):∃ c l,code t = c :: l ∧ c ≠ 41 ∧ c ≠ 44:=by
 cases t with
 | base c=>exact ⟨c,[],rfl,(base_ne h).1,(base_ne h).2.1⟩
 | ptr t=>exact ⟨_,_,rfl,by decide,by decide⟩
 | arr n t=>exact ⟨_,_,rfl,by decide,by decide⟩
 | str s=>exact ⟨_,_,rfl,by decide,by decide⟩
 | fn ps r=>exact ⟨_,_,rfl,by decide,by decide⟩
theorem name_no {s:List UInt8} (h:nameL s = true):59 ∉ s ∧ 58 ∉ s ∧ s.length ≤ 31 ∧ s ≠ []:=by
 unfold nameL isNameB at h
 simp only [Bool.and_eq_true,decide_eq_true_iff] at h
 obtain ⟨h0,h1,h2,h3,_⟩:=h
 have e:ByteArray.size ⟨s.toArray⟩ = s.length:=by simp [ByteArray.size]
 have e2:(⟨s.toArray⟩:ByteArray).data.toList = s:=by simp
 rw [e] at h0 h1
 replace h3:wlen s = s.length:=h3
 have key:∀ c ∈ s,wordB c = true:=fun c hc=>by
  obtain ⟨k,hk,rfl⟩:=List.getElem_of_mem hc
  obtain ⟨c',h4,h5⟩:=wlen_lt (l:=s) (k:=k) (by omega)
  rw [List.getElem?_eq_getElem hk] at h4
  obtain rfl:=Option.some.inj h4
  exact h5
 exact ⟨fun hm=>absurd (key _ hm) (by decide),fun hm=>absurd (key _ hm) (by decide),h1,by rintro rfl;simp at h0⟩
mutual
theorem code_tyF:∀ (t:Ty),Right t → ∀ k r,(code t).length < k → tyF k (code t ++ r) = some (t,r)
 | .base c,h,k + 1,r,_=>by
   rw [code,List.cons_append,tyF,if_pos (show isBase c = true from h)];rfl
 | .ptr t,h,k + 1,r,hk=>by
   rw [code] at hk ⊢
   rw [List.cons_append,tyF,if_neg (by decide),if_pos rfl,code_tyF t h k r (by simpa using hk)];rfl
 | .arr n t,h,k + 1,r,hk=>by
   rw [code] at hk ⊢
   have hc:(58:UInt8) ∉ Lib.decDigits n:=fun hm=>by
    have:=List.all_eq_true.1 (dec_digits n).1 _ hm
    exact absurd this (by decide)
   rw [List.cons_append,tyF,if_neg (by decide),if_neg (by decide),if_pos rfl,List.append_assoc,List.cons_append,cutAt_mk hc]
   simp only [Option.bind_some,numT_mk h.1]
   rw [code_tyF t h.2 k r (by simp at hk;omega)];rfl
 | .str s,h,k + 1,r,hk=>by
   rw [code,List.cons_append,tyF,if_neg (by decide),if_neg (by decide),if_neg (by decide),if_pos rfl,List.append_assoc,List.singleton_append,cutAt_mk (name_no h).1]
   simp only [Option.bind_some]
   rw [if_pos (show nameL s = true from h)]
 | .fn ps x,h,k + 1,r,hk=>by
   rw [code] at hk ⊢
   simp only [List.length_cons,List.length_append] at hk
   rw [List.cons_append,tyF,if_neg (by decide),if_neg (by decide),if_neg (by decide),if_neg (by decide),if_pos rfl]
   simp only [List.cons_append,List.append_assoc,behind,if_true,Option.bind_some]
   rw [code_parsF ps h.1 k _ (by omega)]
   simp only [Option.bind_some]
   rw [code_tyF x h.2 k r (by omega)];rfl
theorem code_parsF:∀ (ps:List Ty),Rights ps → ∀ k r,(codes ps).length + 2 < k → parsF k (codes ps ++ 41 :: r) = some (ps,r)
 | [],_,k + 1,r,_=>by
   simp [codes,parsF]
 | t :: l,h,k + 2,r,hk=>by
   obtain ⟨c,q,hc,h1,_⟩:=code_head t h.1
   have hm:=code_moreF t l h.1 h.2 (k + 1) r (by omega)
   rw [codes_cons] at hm ⊢
   rw [hc] at hm ⊢
   rw [List.cons_append,List.cons_append,parsF,if_neg h1]
   exact hm
theorem code_moreF:∀ (t:Ty) (l:List Ty),Right t → Rights l → ∀ k r,(codes (t :: l)).length + 1 < k → moreF k (codes (t :: l) ++ 41 :: r) = some (t :: l,r)
 | t,[],ht,hl,k + 1,r,hk=>by
   rw [codes_cons,codes',List.append_nil] at *
   rw [moreF,code_tyF t ht k _ (by omega)];rfl
 | t,t' :: l,ht,hl,k + 1,r,hk=>by
   rw [codes_cons,codes'_cons] at *
   simp only [List.length_append,List.length_cons] at hk
   rw [moreF,List.append_assoc,code_tyF t ht k _ (by omega)]
   simp only [Option.bind_some,List.cons_append]
   rw [code_moreF t' l hl.1 hl.2 k r (by omega)];rfl
end
def tyE (l:List UInt8):Option Ty:=(tyF (2 * l.length + 1) l).bind fun q=>if q.2 = [] then some q.1 else none
theorem tyE_some {l:List UInt8} {t:Ty}:tyE l = some t ↔ l = code t ∧ Right t:=by
 unfold tyE
 constructor
 ·intro h
  obtain ⟨⟨t',r⟩,h1,h2⟩:=Option.bind_eq_some_iff.1 h
  split at h2
  ·rename_i e
   simp only at e
   subst e
   obtain rfl:=Option.some.inj h2
   have:=(tyF_code _).1 _ _ _ h1
   simpa using this
  ·cases h2
 ·rintro ⟨rfl,h⟩
  have:=code_tyF t h (2 * (code t).length + 1) [] (by omega)
  rw [List.append_nil] at this
  rw [this];rfl
def isIntT:Ty → Bool
 | .base c=>decide (c = 99 ∨ c = 115 ∨ c = 105 ∨ c = 117)
 | _=>false
def isPtrT:Ty → Bool
 | .ptr _=>true
 | _=>false
def isScalarT (t:Ty):Bool:=isIntT t || isPtrT t
def isFnT:Ty → Bool
 | .fn _ _=>true
 | _=>false
def isVoidT:Ty → Bool
 | .base c=>decide (c = 118)
 | _=>false
def objectT (t:Ty):Bool:=!isVoidT t && !isFnT t
mutual
def shapeT:Ty → Bool
 | .base _=>true
 | .ptr t=>shapeT t
 | .arr n t=>decide (1 ≤ n ∧ n ≤ 65536) && (objectT t && shapeT t)
 | .str _=>true
 | .fn ps r=>decide (ps.length ≤ 8) && ((isVoidT r || isScalarT r) && (shapeT r && shapesT ps))
def shapesT:List Ty → Bool
 | []=>true
 | t :: l=>(isScalarT t && shapeT t) && shapesT l
end
structure Sr where
 name:ByteArray
 mems:List (ByteArray × ByteArray)
structure Kn extends Sr where
 size:Nat
 align:Nat
def findK (K:List Kn) (s:List UInt8):Option Nat:=K.findIdx? fun k=>decide (k.name.data.toList = s)
def thereT (K:List Kn):Ty → Bool
 | .arr _ t=>thereT K t
 | .str s=>(findK K s).isSome
 | _=>true
def measT (K:List Kn):Ty → Nat × Nat
 | .base c=>if c = 99 then (1,1) else if c = 115 then (2,2) else if c = 106 then (64,4) else (4,4)
 | .ptr _=>(4,4)
 | .arr n t=>(n * (measT K t).1,(measT K t).2)
 | .str s=>match (findK K s).bind (K[·]?) with
   | some k=>(k.size,k.align)
   | none=>(4,4)
 | .fn _ _=>(4,4)
mutual
def sizedT (K:List Kn):Ty → Bool
 | .base _=>true
 | .ptr t=>sizedT K t
 | .arr n t=>sizedT K t && (!thereT K t || decide (n * (measT K t).1 ≤ 65536))
 | .str _=>true
 | .fn ps r=>sizedT K r && sizedsT K ps
def sizedsT (K:List Kn):List Ty → Bool
 | []=>true
 | t :: l=>sizedT K t && sizedsT K l
end
def tyS (s:ByteArray):Option Ty:=if s.size ≤ 65536 then tyE s.data.toList else none
def checkT (K:List Kn) (t:Ty):Int:=if 48 < deepT t then 3 else if shapeT t = false then 5 else if thereT K t = false then 4 else if sizedT K t = false then 3 else 0
def checkS (K:List Kn) (s:ByteArray):Int:=match tyS s with
 | none=>2
 | some t=>checkT K t
def fitN (at_ a:Nat):Nat:=(at_ + a - 1) / a * a
def memsK (K:List Kn):List (ByteArray × ByteArray) → List ByteArray → Nat → Nat → Int ⊕ (Nat × Nat)
 | [],_,at_,most=>.inr (at_,most)
 | m :: l,seen,at_,most=>
   if isNameB m.1 = false then .inl 2
   else if Lib.containsS seen m.1 = true then .inl 6
   else match tyS m.2 with
    | none=>.inl 2
    | some t=>
      if checkT K t ≠ 0 then .inl (checkT K t)
      else if objectT t = false then .inl 5
      else memsK K l (seen ++ [m.1]) (fitN at_ (measT K t).2 + (measT K t).1) (max most (measT K t).2)
def addK (K:List Kn) (x:Sr):Int ⊕ Kn:=
 if isNameB x.name = false then .inl 2
 else if (findK K x.name.data.toList).isSome = true then .inl 6
 else if 64 < x.mems.length then .inl 3
 else if x.mems = [] then .inl 5
 else match memsK K x.mems [] 0 1 with
  | .inl e=>.inl e
  | .inr (at_,most)=>if 65536 < fitN at_ most then .inl 3 else .inr { x with size:=fitN at_ most,align:=most }
def learnF:List Kn → List Sr → (Nat × Int) ⊕ List Kn
 | K,[]=>.inr K
 | K,x :: l=>match addK K x with
   | .inl e=>.inl (K.length,e)
   | .inr k=>learnF (K ++ [k]) l
def learnK (l:List Sr):(Nat × Int) ⊕ List Kn:=if 64 < l.length then .inl (0,3) else learnF [] l
structure Nd where
 kind:Int
 n:Int
 at_:Int
 int:Int
 text:ByteArray
 type:ByteArray
def arityN (k:Int):Int × Int:=
 if k = 1 ∨ k = 2 ∨ k = 3 ∨ k = 17 ∨ k = 30 ∨ k = 31 ∨ k = 33 then (0,0)
 else if k = 4 ∨ k = 5 ∨ k = 6 ∨ k = 13 ∨ k = 14 ∨ k = 15 ∨ k = 16 ∨ k = 20 ∨ k = 29 then (1,1)
 else if k = 7 ∨ k = 8 ∨ k = 10 ∨ k = 12 ∨ k = 24 ∨ k = 25 ∨ k = 27 ∨ k = 28 then (2,2)
 else if k = 9 then (3,3)
 else if k = 26 then (4,4)
 else if k = 11 then (1,9)
 else if k = 21 then (0,4096)
 else if k = 22 ∨ k = 32 then (0,1)
 else if k = 23 then (2,3)
 else (-1,-1)
def typedS (s:ByteArray):Bool:=decide (checkS [] s = 0 ∨ checkS [] s = 4)
def objectS (s:ByteArray):Bool:=(tyS s).any objectT
def marksB:List ByteArray:=[⟨#[42]⟩,⟨#[47]⟩,⟨#[37]⟩,⟨#[43]⟩,⟨#[45]⟩,⟨#[60,60]⟩,⟨#[62,62]⟩,⟨#[60]⟩,⟨#[62]⟩,⟨#[60,61]⟩,⟨#[62,61]⟩,⟨#[61,61]⟩,⟨#[33,61]⟩,⟨#[38]⟩,⟨#[94]⟩,⟨#[124]⟩,⟨#[38,38]⟩,⟨#[124,124]⟩]
def marksN (k:Int):List ByteArray:=
 if k = 4 then [⟨#[45]⟩,⟨#[126]⟩,⟨#[33]⟩,⟨#[38]⟩,⟨#[42]⟩]
 else if k = 5 ∨ k = 6 then [⟨#[43,43]⟩,⟨#[45,45]⟩]
 else if k = 7 then marksB
 else if k = 8 then [⟨#[61]⟩,⟨#[42,61]⟩,⟨#[47,61]⟩,⟨#[37,61]⟩,⟨#[43,61]⟩,⟨#[45,61]⟩,⟨#[60,60,61]⟩,⟨#[62,62,61]⟩,⟨#[38,61]⟩,⟨#[94,61]⟩,⟨#[124,61]⟩]
 else []
def noText (s:ByteArray):Bool:=decide (s.size = 0)
def numberN (x:Nd):Bool:=if x.type = ⟨#[117]⟩ then decide (0 ≤ x.int ∧ x.int < 4294967296) else decide (x.type = ⟨#[105]⟩) && decide (-128 ≤ x.int ∧ x.int < 2147483648)
def sizeOk (x:Nd):Bool:=decide (0 ≤ (arityN x.kind).1 ∧ (arityN x.kind).1 ≤ x.n ∧ x.n ≤ (arityN x.kind).2 ∧ 0 ≤ x.at_ ∧ x.at_ ≤ 65536)
def intOk (x:Nd):Bool:=decide (x.int = 0 ∨ (x.kind = 22 ∧ x.int = 1))
def bodyOk (x:Nd):Bool:=
 if x.kind = 2 then decide (x.text.size ≤ 4096) && noText x.type
 else if x.kind = 3 ∨ x.kind = 13 ∨ x.kind = 14 then isNameB x.text && noText x.type
 else if x.kind = 22 then isNameB x.text && (typedS x.type && objectS x.type)
 else if x.kind = 4 ∨ x.kind = 5 ∨ x.kind = 6 ∨ x.kind = 7 ∨ x.kind = 8 then Lib.containsS (marksN x.kind) x.text && noText x.type
 else if x.kind = 15 ∨ x.kind = 17 then noText x.text && typedS x.type
 else noText x.text && noText x.type
def wellN (x:Nd):Bool:=sizeOk x && (if x.kind = 1 then numberN x && noText x.text else intOk x && bodyOk x)
def beginsF:List Nd → Nat → List Nat → Option (List Nat × List Nat)
 | [],_,st=>some ([],st)
 | x :: l,i,st=>
   if x.n < 0 ∨ (st.length:Int) < x.n then none
   else
    let a:=if 0 < x.n then st.getD (x.n.toNat - 1) 0 else i
    (beginsF l (i + 1) (a :: st.drop x.n.toNat)).map fun r=>(a :: r.1,r.2)
def beginsN (t:List Nd):Option (List Nat):=match beginsF t 0 [] with
 | some (f,[_])=>some f
 | _=>none
def partsE (fr:List Nat):Nat → Nat → List Nat
 | 0,_=>[]
 | n + 1,e=>partsE fr n (fr.getD (e - 1) 0) ++ [e - 1]
def Back (fr:List Nat):Nat → Nat → Prop
 | 0,_=>True
 | n + 1,e=>0 < e ∧ fr.getD (e - 1) 0 < e ∧ Back fr n (fr.getD (e - 1) 0)
def Ends (fr:List Nat):List Nat → Nat → Prop
 | [],_=>True
 | s :: st,e=>s < e ∧ fr.getD (e - 1) 0 = s ∧ Ends fr st s
theorem Ends.back {fr:List Nat}:∀ {st:List Nat} {e n:Nat},Ends fr st e → n ≤ st.length → Back fr n e
 | _,_,0,_,_=>trivial
 | [],_,n + 1,_,h=>by simp at h
 | s :: st,e,n + 1,⟨h1,h2,h3⟩,h=>⟨by omega,by omega,by rw [h2];exact Ends.back h3 (by simpa using h)⟩
theorem getD_app {fr g:List Nat} {k:Nat} (h:k < fr.length):(fr ++ g).getD k 0 = fr.getD k 0:=by
 rw [List.getD_eq_getElem?_getD,List.getD_eq_getElem?_getD,List.getElem?_append_left h]
theorem Ends.app {fr g:List Nat}:∀ {st:List Nat} {e:Nat},e ≤ fr.length → Ends fr st e → Ends (fr ++ g) st e
 | [],_,_,_=>trivial
 | s :: st,e,he,⟨h1,h2,h3⟩=>⟨h1,by rw [getD_app (by omega)];exact h2,Ends.app (by omega) h3⟩
theorem Ends.drop {fr:List Nat}:∀ {st:List Nat} {e:Nat} (n:Nat),Ends fr st e → 0 < n → n ≤ st.length → Ends fr (st.drop n) (st.getD (n - 1) 0)
 | [],_,n,_,h0,h=>by simp at h;omega
 | s :: st,e,n + 1,⟨h1,h2,h3⟩,_,h=>by
   cases n with
   | zero=>simpa using h3
   | succ n=>
     have:=Ends.drop (n + 1) h3 (by omega) (by simpa using h)
     simpa using this
theorem Ends.lt {fr:List Nat}:∀ {st:List Nat} {e:Nat} (n:Nat),Ends fr st e → n < st.length → st.getD n 0 < e
 | [],_,n,_,h=>by simp at h
 | s :: st,e,0,⟨h1,_,_⟩,_=>by simpa using h1
 | s :: st,e,n + 1,⟨h1,_,h3⟩,h=>by
   have:=Ends.lt n h3 (by simpa using h)
   simp only [List.getD_cons_succ]
   omega
theorem begins_back:∀ (l:List Nd) (pre:List Nat) (st:List Nat) {f st':List Nat},beginsF l pre.length st = some (f,st') → Ends pre st pre.length →
 f.length = l.length ∧ Ends (pre ++ f) st' (pre.length + l.length) ∧ ∀ (j:Nat) x,l[j]? = some x → 0 ≤ x.n ∧ Back (pre ++ f) x.n.toNat (pre.length + j) ∧ (pre ++ f).getD (pre.length + j) 0 ≤ pre.length + j
 | [],pre,st,f,st',h,he=>by
   rw [beginsF] at h
   obtain ⟨rfl,rfl⟩:=Prod.mk.inj (Option.some.inj h)
   exact ⟨rfl,by simpa using he,fun j x hx=>by simp at hx⟩
 | x :: l,pre,st,f,st',h,he=>by
   rw [beginsF] at h
   split at h
   ·cases h
   ·rename_i hn
    simp only [Option.map_eq_some_iff] at h
    obtain ⟨⟨g,st2⟩,hg,e⟩:=h
    obtain ⟨rfl,rfl⟩:=Prod.mk.inj e
    simp only at hg ⊢
    generalize ha:(if 0 < x.n then st.getD (x.n.toNat - 1) 0 else pre.length) = a at *
    have hle:x.n.toNat ≤ st.length:=by omega
    have ha1:a ≤ pre.length:=by
     rw [← ha]
     split
     ·exact Nat.le_of_lt (he.lt _ (by omega))
     ·exact Nat.le_refl _
    have he2:Ends (pre ++ [a]) (a :: st.drop x.n.toNat) (pre ++ [a]).length:=by
     refine ⟨by simp;omega,by simp,?_⟩
     by_cases h0:0 < x.n
     ·rw [if_pos h0] at ha
      rw [← ha]
      exact (he.drop x.n.toNat (by omega) hle).app (by rw [ha];exact ha1)
     ·rw [if_neg h0] at ha
      have:x.n.toNat = 0:=by omega
      rw [this,← ha]
      simpa using he.app (Nat.le_refl _)
    have hl1:(pre ++ [a]).length = pre.length + 1:=by simp
    obtain ⟨h1,h2,h3⟩:=begins_back l (pre ++ [a]) _ (by rw [hl1];exact hg) he2
    have hap:pre ++ [a] ++ g = pre ++ a :: g:=by simp
    rw [hap,hl1] at h2 h3
    refine ⟨by simp [h1],by rw [show pre.length + (x :: l).length = pre.length + 1 + l.length by simp;omega];exact h2,fun j y hy=>?_⟩
    cases j with
    | zero=>
      obtain rfl:=Option.some.inj hy
      refine ⟨by omega,?_,?_⟩
      ·have:=(he.app (g:=a :: g) (Nat.le_refl _)).back (n:=x.n.toNat) hle
       simpa using this
      ·rw [List.getD_eq_getElem?_getD,Nat.add_zero,List.getElem?_append_right (Nat.le_refl _),Nat.sub_self]
       exact ha1
    | succ j=>
      have:=h3 j y (by simpa using hy)
      rw [show pre.length + (j + 1) = pre.length + 1 + j by omega]
      exact this
structure Formed (t:List Nd) (fr:List Nat):Prop where
 len:fr.length = t.length
 pos:0 < t.length
 node:∀ (j:Nat) x,t[j]? = some x → 0 ≤ x.n ∧ Back fr x.n.toNat j ∧ fr.getD j 0 ≤ j
theorem formed_of {t:List Nd} {fr:List Nat} (h:beginsN t = some fr):Formed t fr:=by
 unfold beginsN at h
 split at h
 ·rename_i f s hb
  obtain rfl:=Option.some.inj h
  obtain ⟨h1,h2,h3⟩:=begins_back t [] [] hb trivial
  refine ⟨h1,?_,fun j x hx=>by simpa using h3 j x hx⟩
  have:=h2.1
  simp at this;omega
 ·cases h
def exprK (k:Int):Bool:=decide (1 ≤ k ∧ k ≤ 17)
def stmtK (k:Int):Bool:=decide (20 ≤ k ∧ k ≤ 32 ∧ k ≠ 22)
def mayN (k:Int) (i:Nat) (q:Int):Bool:=
 if exprK k = true ∨ k = 20 ∨ k = 32 ∨ k = 22 then exprK q
 else if k = 26 then (if i = 0 then decide (q = 20 ∨ q = 22 ∨ q = 33) else if i = 3 then stmtK q else exprK q || decide (q = 33))
 else if k = 21 then stmtK q || decide (q = 22)
 else if k = 25 then (if i = 0 then stmtK q else exprK q)
 else if k = 23 ∨ k = 24 ∨ k = 27 ∨ k = 28 then (if i = 0 then exprK q else stmtK q)
 else stmtK q
def kindAt (t:List Nd) (k:Nat):Int:=(t[k]?.map Nd.kind).getD 0
def partsAt (t:List Nd) (fr:List Nat) (k:Nat):List Nat:=partsE fr ((t[k]?.map fun x=>x.n.toNat).getD 0) k
def openF (t:List Nd) (fr:List Nat):Nat → Nat → Bool
 | 0,_=>false
 | m + 1,k=>
   let p:=partsAt t fr k
   if kindAt t k = 23 then decide (p.length = 2) || openF t fr m (p.getD 2 0)
   else if kindAt t k = 24 ∨ kindAt t k = 26 ∨ kindAt t k = 27 ∨ kindAt t k = 28 ∨ kindAt t k = 29 then openF t fr m (p.getD (p.length - 1) 0)
   else false
def openN (t:List Nd) (fr:List Nat) (k:Nat):Bool:=openF t fr (k + 1) k
def mayAll (t:List Nd) (k:Int):Nat → List Nat → Bool
 | _,[]=>true
 | i,p :: l=>mayN k i (kindAt t p) && mayAll t k (i + 1) l
def fitsN (t:List Nd) (fr:List Nat) (k:Nat):Bool:=
 mayAll t (kindAt t k) 0 (partsAt t fr k) && (decide (kindAt t k ≠ 23) || (decide ((partsAt t fr k).length < 3) || !openN t fr ((partsAt t fr k).getD 1 0)))
def deepF:List Nd → List Nat → List Nat
 | [],st=>st
 | x :: l,st=>deepF l (((st.take x.n.toNat).foldl max 0 + 1) :: st.drop x.n.toNat)
def deepN (t:List Nd):Nat:=(deepF t []).getD 0 0
def checkN9 (t:List Nd):Int:=
 if 4096 < t.length then 3
 else if t.all wellN = false then 90
 else match beginsN t with
  | none=>90
  | some fr=>if (List.range t.length).all (fitsN t fr) = false then 90 else if 48 < deepN t then 3 else 0
end Go.Proofs.YtkokdafkjjcgoaaGreatDoor
