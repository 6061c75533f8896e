/- How C writes a type -/
import Derived.Test.YtkokdafkjjcgoaaGreatDoorMg12
namespace Go.Proofs.YtkokdafkjjcgoaaGreatDoor
def wordT:Ty → List UInt8
 | .base c=>if c = 118 then [118,111,105,100] else if c = 99 then [99,104,97,114] else if c = 115 then [115,104,111,114,116] else if c = 105 then [105,110,116]
   else if c = 117 then [117,110,115,105,103,110,101,100] else [106,109,112,95,98,117,102]
 | .str s=>[115,116,114,117,99,116,32] ++ s
 | _=>[]
def isArrT:Ty → Bool
 | .arr _ _=>true
 | _=>false
def commaL:List (List UInt8) → List UInt8
 | []=>[]
 | [x]=>x
 | x :: y :: l=>x ++ 44 :: 32 :: commaL (y :: l)
mutual
def declT:Ty → List UInt8 → List UInt8
 | .base c,s=>if s = [] then wordT (.base c) else wordT (.base c) ++ 32 :: s
 | .str n,s=>if s = [] then wordT (.str n) else wordT (.str n) ++ 32 :: s
 | .ptr t,s=>declT t (if isArrT t || isFnT t then 40 :: 42 :: s ++ [41] else 42 :: s)
 | .arr n t,s=>declT t (s ++ 91 :: Lib.decDigits n ++ [93])
 | .fn ps r,s=>declT r (s ++ 40 :: (if ps = [] then [118,111,105,100] else commaL (declTs ps)) ++ [41])
def declTs:List Ty → List (List UInt8)
 | []=>[]
 | t :: l=>declT t [] :: declTs l
end
end Go.Proofs.YtkokdafkjjcgoaaGreatDoor
namespace Go.Proofs.YtkokdafkjjcgoaaGreatDoor
open Go.RowKit
def strB (l:List UInt8):ByteArray:=⟨l.toArray⟩
theorem strB_list (l:List UInt8):(strB l).data.toList = l:=by simp [strB]
theorem strB_size (l:List UInt8):(strB l).size = l.length:=by simp [strB,ByteArray.size]
theorem strB_eq {x:ByteArray} {l:List UInt8} (h:x.data.toList = l):x = strB l:=toList_eq (by rw [h,strB_list])
theorem strB_self (x:ByteArray):strB x.data.toList = x:=(strB_eq rfl).symm
theorem strB_append (a b:List UInt8):strB a ++ strB b = strB (a ++ b):=strB_eq (by simp [strB_list])
theorem add_str (a b:List UInt8) (h:a.length + b.length ≤ 9223372036854775807):∀ w,(Op.stringOp .add (strB a) (strB b)).run Tryz.prog w = .ok (.string (strB (a ++ b))) w:=
 add_namedT _ _ _ (strB_append a b) (by rw [strB_size,strB_size];exact h)
theorem strB_isEmpty (l:List UInt8):(strB l).toList.isEmpty = l.isEmpty:=by rw [Lib.toList_data,strB_list]
theorem str_emp {l:List UInt8} (h:l = []):(strB l).toList.isEmpty = true:=by rw [strB_isEmpty,h];rfl
theorem str_nemp {l:List UInt8} (h:l ≠ []):(strB l).toList.isEmpty = false:=by rw [strB_isEmpty];simpa using h
mutual
theorem decl_len:∀ (t:Ty) (x:List UInt8),Right t → (declT t x).length ≤ x.length + 16 * (code t).length
 | .base c,x,h=>by
   have hw:(wordT (.base c)).length ≤ 8:=by
    simp only [wordT]
    repeat' split
    all_goals decide
   rw [declT,code]
   split
   ·simp at *;omega
   ·simp at *;omega
 | .str n,x,h=>by
   rw [declT,code]
   split
   ·simp [wordT];omega
   ·simp [wordT];omega
 | .ptr t,x,h=>by
   rw [declT,code]
   have:=decl_len t (if isArrT t || isFnT t then 40 :: 42 :: x ++ [41] else 42 :: x) h
   split at this
   ·rename_i e;rw [if_pos e];simp at this ⊢;omega
   ·rename_i e;rw [if_neg e];simp at this ⊢;omega
 | .arr n t,x,h=>by
   rw [declT,code]
   have:=decl_len t (x ++ 91 :: Lib.decDigits n ++ [93]) h.2
   simp at this ⊢;omega
 | .fn ps r,x,h=>by
   rw [declT,code]
   have h1:=decl_len r (x ++ 40 :: (if ps = [] then [118,111,105,100] else commaL (declTs ps)) ++ [41]) h.2
   have h2:=decls_len ps h.1
   have h3:(if ps = [] then ([118,111,105,100]:List UInt8) else commaL (declTs ps)).length ≤ 4 + 16 * (codes ps).length:=by
    split
    ·simp
    ·omega
   simp at h1 ⊢;omega
theorem decls_len:∀ (ps:List Ty),Rights ps → (commaL (declTs ps)).length ≤ 16 * (codes ps).length
 | [],_=>by simp [declTs,commaL]
 | [t],h=>by
   have:=decl_len t [] h.1
   rw [declTs,declTs,commaL,codes_cons]
   simp at this ⊢;omega
 | t :: u :: l,h=>by
   have h1:=decl_len t [] h.1
   have h2:=decls_len (u :: l) h.2
   rw [declTs] at h2 ⊢
   rw [declTs,commaL,codes_cons,codes'_cons]
   simp at h1 h2 ⊢;omega
end
set_option maxHeartbeats 1000000 in
theorem base_ok (t:Ty) (w:World) (hr:Right t) (ht:(∃ c,t = .base c) ∨ ∃ n,t = .str n) (hl:(code t).length ≤ 65536):Calls Tryz.prog 186 #[.string (tyB t)] w fun e w'=>e = .returned (.string (strB (wordT t))) ∧ w' = w:=by
 rcases ht with ⟨c,rfl⟩ | ⟨n,rfl⟩
 ·rcases base_six hr with rfl | rfl | rfl | rfl | rfl | rfl
  all_goals
   have t1:=one_is hr 118
   have t2:=one_is hr 99
   have t3:=one_is hr 115
   have t4:=one_is hr 105
   have t5:=one_is hr 117
   have t6:=one_is hr 106
   simp (decide:=true) only [isC] at t1 t2 t3 t4 t5 t6
   generalize tyB (.base _) = s at *
   clear hr
   go_enter Tryz.func186,Tryz.ntmps186
   go_wp2_with fail
   go_ret
   exact ⟨rfl,rfl⟩
 ·have t1:=one_is hr 118
  have t2:=one_is hr 99
  have t3:=one_is hr 115
  have t4:=one_is hr 105
  have t5:=one_is hr 117
  have t6:=one_is hr 106
  simp only [isC] at t1 t2 t3 t4 t5 t6
  have hx:(tyB (.str n)).extract 1 ((tyB (.str n)).size - 1) = strB n:=strB_eq (by
   have:(tyB (.str n)).size - 1 = 1 + n.length:=by rw [tyB_size,code];simp;omega
   rw [this,extract_take,tyB_sfx,code]
   simp)
  have hadd:=add_str [115,116,114,117,99,116,32] n (by rw [code] at hl;simp at hl ⊢;omega)
  have hs2:2 ≤ (tyB (.str n)).size:=by rw [tyB_size,code];simp
  have hs3:(tyB (.str n)).size ≤ 65536:=by rw [tyB_size];exact hl
  generalize tyB (.str n) = s at *
  have HX:=Hd hx
  have e1:IntKind.i64.wrap ((s.size:Int) - 1) = (s.size:Int) - 1:=IntWalk.i64_in _ (by omega)
  have e2:((s.size:Int) - 1).toNat = s.size - 1:=by omega
  have e3:(1:Int) ≤ (s.size:Int) - 1:=by omega
  have e4:(s.size:Int) - 1 ≤ s.size:=by omega
  clear hx hl hr hs3
  rw [show strB [115,116,114,117,99,116,32] = ⟨#[115,116,114,117,99,116,32]⟩ from rfl,← HX.out] at hadd
  go_enter Tryz.func186,Tryz.ntmps186
  go_wp2_with fail
  go_ret
  exact ⟨rfl,rfl⟩
def DeclC (t:Ty):Prop:=∀ (x:List UInt8) (w:World),TP w → x.length + 16 * (code t).length ≤ 2000000 →
 Calls Tryz.prog 151 #[.string (tyB t),.string (strB x)] w fun e w'=>e = .returned (.string (strB (declT t x))) ∧ Below w.heap.size w w'
theorem ret_strB {a b:List UInt8} (h:a = b):Ending.returned (.string (strB a)) = .returned (.string (strB b)):=by rw [h]
set_option maxHeartbeats 1000000 in
theorem decl_root (t:Ty) (hr:Right t) (ht:(∃ c,t = .base c) ∨ ∃ n,t = .str n) (hl:(code t).length ≤ 65536):DeclC t:=by
 intro x w _ hz
 have HBs:=Hd (fun w=>base_ok t w hr ht hl)
 obtain ⟨h0,hc⟩:=tyB_head t
 have hne:headT t ≠ 112 ∧ headT t ≠ 97 ∧ headT t ≠ 102:=by
  rcases ht with ⟨c,rfl⟩ | ⟨n,rfl⟩
  ·rcases base_six hr with rfl | rfl | rfl | rfl | rfl | rfl <;> decide
  ·simp [headT]
 have t1:(((tyB t)[0].toNat:Int) == 112) = false:=eq_false' (d:=112) hc hne.1
 have t2:(((tyB t)[0].toNat:Int) == 97) = false:=eq_false' (d:=97) hc hne.2.1
 have t3:(((tyB t)[0].toNat:Int) == 102) = false:=eq_false' (d:=102) hc hne.2.2
 have hw:(wordT t).length ≤ 16 * (code t).length:=by
  have:=decl_len t [] hr
  rcases ht with ⟨c,rfl⟩ | ⟨n,rfl⟩
  ·rw [declT,if_pos rfl] at this;simpa using this
  ·rw [declT,if_pos rfl] at this;simpa using this
 have hd:declT t x = if x = [] then wordT t else wordT t ++ 32 :: x:=by
  rcases ht with ⟨c,rfl⟩ | ⟨n,rfl⟩
  ·rw [declT]
  ·rw [declT]
 by_cases hx:x = []
 ·have hfin:=Hd (hd.trans (if_pos hx))
  have t4:=str_emp hx
  generalize tyB t = s at *
  generalize strB x = y at *
  clear hne hw hd hr ht hl hc hx hz
  go_enter Tryz.func151,Tryz.ntmps151
  go_wp2_with (go_at_call 186;(with_reducible refine (HBs.out _).mono ?_);rintro e w1 ⟨rfl,rfl⟩)
  go_ret
  exact ⟨(ret_strB hfin.out.symm),Below.refl _ _⟩
 ·have hfin:=Hd (hd.trans (if_neg hx))
  have t4:=str_nemp hx
  have a1:=add_str (wordT t) [32] (by simp;omega)
  have a2:=add_str (wordT t ++ [32]) x (by simp;omega)
  rw [show strB [32] = ⟨#[32]⟩ from rfl] at a1
  rw [show wordT t ++ [32] ++ x = declT t x by rw [hfin.out];simp] at a2
  generalize tyB t = s at *
  generalize strB (declT t x) = y3 at *
  generalize strB (wordT t ++ [32]) = y2 at *
  generalize strB (wordT t) = y1 at *
  generalize strB x = y at *
  clear hne hw hd hr ht hl hc hx hz hfin
  go_enter Tryz.func151,Tryz.ntmps151
  go_wp2_with (go_at_call 186;(with_reducible refine (HBs.out _).mono ?_);rintro e w1 ⟨rfl,rfl⟩)
  go_ret
  exact ⟨rfl,Below.refl _ _⟩
theorem tyB_second (t:Ty):∃ h:1 < (tyB (.ptr t)).size,(tyB (.ptr t))[1] = headT t:=by
 have h1:sfx (tyB (.ptr t)) 1 = code t:=by rw [tyB_sfx];rfl
 obtain ⟨l,hl⟩:∃ l,code t = headT t :: l:=by cases t <;> exact ⟨_,rfl⟩
 rw [hl] at h1
 obtain ⟨hk,h2,_⟩:=sfx_head h1
 exact ⟨hk,h2⟩
theorem head_arr {t:Ty} (h:Right t):(((headT t).toNat:Int) == 97) = isArrT t:=by
 cases t with
 | base c=>rcases base_six h with rfl | rfl | rfl | rfl | rfl | rfl <;> rfl
 | _=>rfl
theorem head_fn {t:Ty} (h:Right t):(((headT t).toNat:Int) == 102) = isFnT t:=by
 cases t with
 | base c=>rcases base_six h with rfl | rfl | rfl | rfl | rfl | rfl <;> rfl
 | _=>rfl
set_option maxHeartbeats 2000000 in
theorem decl_ptr (t:Ty) (hr:Right t) (_hl:(code (.ptr t)).length ≤ 65536) (ih:DeclC t):DeclC (.ptr t):=by
 intro x w hE hz
 have HE:=Hd hE
 rw [code] at hz
 simp only [List.length_cons] at hz
 obtain ⟨h0,hc⟩:=tyB_head (.ptr t)
 obtain ⟨h1,hc1⟩:=tyB_second t
 have t1:(((tyB (.ptr t))[0].toNat:Int) == 112) = true:=eq_true' hc
 have t2:(((tyB (.ptr t))[1].toNat:Int) == 97) = isArrT t:=by rw [hc1];exact head_arr hr
 have t3:(((tyB (.ptr t))[1].toNat:Int) == 102) = isFnT t:=by rw [hc1];exact head_fn hr
 have HX:=Hd (tyB_ext (t:=.ptr t) (u:=t) (k:=1) rfl)
 have hi1:(1:Int) < (tyB (.ptr t)).size:=by omega
 have hi2:(1:Int) ≤ (tyB (.ptr t)).size:=by omega
 have a1:=add_str [42] x (by simp;omega)
 rw [show strB [42] = ⟨#[42]⟩ from rfl] at a1
 have hd:declT (.ptr t) x = declT t (if isArrT t || isFnT t then 40 :: 42 :: x ++ [41] else 42 :: x):=by rw [declT]
 rcases ha:isArrT t with _ | _
 ·rcases hf:isFnT t with _ | _
  ·have HI:=Hd (fun w hE=>ih (42 :: x) w hE (by simp;omega))
   have hfin:=Hd (show declT t (42 :: x) = declT (.ptr t) x by rw [hd,ha,hf];rfl)
   rw [ha] at t2;rw [hf] at t3
   generalize tyB (.ptr t) = s at *
   rw [show [42] ++ x = 42 :: x from rfl] at a1
   generalize strB (42 :: x) = y1 at *
   generalize strB x = y at *
   clear hc hc1 hd hr _hl hz ha hf ih hE
   go_enter Tryz.func151,Tryz.ntmps151
   go_upto_region 6 with fail
   have H6:=Hd (HI.out w HE.out)
   go_wp2_with fail
   rw [HX.out]
   refine H6.out.mono ?_
   rintro e w1 ⟨rfl,hb1⟩
   rw [hfin.out]
   go_wp2_with fail
   go_ret
   exact ⟨rfl,hb1⟩
  ·have a2:=add_str [40] (42 :: x) (by simp;omega)
   have a3:=add_str (40 :: 42 :: x) [41] (by simp;omega)
   rw [show strB [40] = ⟨#[40]⟩ from rfl,show [40] ++ 42 :: x = 40 :: 42 :: x from rfl] at a2
   rw [show strB [41] = ⟨#[41]⟩ from rfl] at a3
   have HI:=Hd (fun w hE=>ih (40 :: 42 :: x ++ [41]) w hE (by simp;omega))
   have hfin:=Hd (show declT t (40 :: 42 :: x ++ [41]) = declT (.ptr t) x by rw [hd,ha,hf];rfl)
   rw [ha] at t2;rw [hf] at t3
   generalize tyB (.ptr t) = s at *
   rw [show [42] ++ x = 42 :: x from rfl] at a1
   generalize strB (40 :: 42 :: x ++ [41]) = y3 at *
   generalize strB (40 :: 42 :: x) = y2 at *
   generalize strB (42 :: x) = y1 at *
   generalize strB x = y at *
   clear hc hc1 hd hr _hl hz ha hf ih hE
   go_enter Tryz.func151,Tryz.ntmps151
   go_upto_region 6 with fail
   have H6:=Hd (HI.out w HE.out)
   go_wp2_with fail
   rw [HX.out]
   refine H6.out.mono ?_
   rintro e w1 ⟨rfl,hb1⟩
   rw [hfin.out]
   go_wp2_with fail
   go_ret
   exact ⟨rfl,hb1⟩
 ·have a2:=add_str [40] (42 :: x) (by simp;omega)
  have a3:=add_str (40 :: 42 :: x) [41] (by simp;omega)
  rw [show strB [40] = ⟨#[40]⟩ from rfl,show [40] ++ 42 :: x = 40 :: 42 :: x from rfl] at a2
  rw [show strB [41] = ⟨#[41]⟩ from rfl] at a3
  have HI:=Hd (fun w hE=>ih (40 :: 42 :: x ++ [41]) w hE (by simp;omega))
  have hfin:=Hd (show declT t (40 :: 42 :: x ++ [41]) = declT (.ptr t) x by rw [hd,ha];rfl)
  rw [ha] at t2
  generalize tyB (.ptr t) = s at *
  rw [show [42] ++ x = 42 :: x from rfl] at a1
  generalize strB (40 :: 42 :: x ++ [41]) = y3 at *
  generalize strB (40 :: 42 :: x) = y2 at *
  generalize strB (42 :: x) = y1 at *
  generalize strB x = y at *
  clear hc hc1 hd hr _hl hz ha t3 ih hE
  go_enter Tryz.func151,Tryz.ntmps151
  go_upto_region 6 with fail
  have H6:=Hd (HI.out w HE.out)
  go_wp2_with fail
  rw [HX.out]
  refine H6.out.mono ?_
  rintro e w1 ⟨rfl,hb1⟩
  rw [hfin.out]
  go_wp2_with fail
  go_ret
  exact ⟨rfl,hb1⟩
set_option maxHeartbeats 2000000 in
theorem decl_arr (n:Nat) (t:Ty) (hr:Right (.arr n t)) (hl:(code (.arr n t)).length ≤ 65536) (ih:DeclC t):DeclC (.arr n t):=by
 intro x w hE hz
 have HE:=Hd hE
 have hcl:(code (.arr n t)).length = (Lib.decDigits n).length + (code t).length + 2:=by rw [code];simp;omega
 rw [hcl] at hz
 obtain ⟨h0,hc⟩:=tyB_head (.arr n t)
 have t1:(((tyB (.arr n t))[0].toNat:Int) == 112) = false:=eq_false' (d:=112) hc (by simp [headT])
 have t2:(((tyB (.arr n t))[0].toNat:Int) == 97) = true:=eq_true' hc
 have HS:=Hd (fun w hM=>split_arr n t w hr hM hl)
 have hI:Lib.itoa (n:Int) = Lib.decDigits n:=by unfold Lib.itoa;rw [if_neg (by omega)];simp
 have HIt:=Hd (fun w hP=>show Calls Tryz.prog 185 #[.int .i64 n] w fun e w'=>e = .returned (.string (strB (Lib.decDigits n))) ∧ Below w.heap.size w w' by
  have:=lexItoa_ok n w hP (by omega) (by have:=hr.1;omega)
  rw [hI] at this;exact this)
 have a1:=add_str x [91] (by simp;omega)
 have a2:=add_str (x ++ [91]) (Lib.decDigits n) (by simp;omega)
 have a3:=add_str (x ++ [91] ++ Lib.decDigits n) [93] (by simp;omega)
 rw [show strB [91] = ⟨#[91]⟩ from rfl] at a1
 rw [show strB [93] = ⟨#[93]⟩ from rfl] at a3
 have he:x ++ [91] ++ Lib.decDigits n ++ [93] = x ++ 91 :: Lib.decDigits n ++ [93]:=by simp
 rw [he] at a3
 have HI:=Hd (fun w hE=>ih (x ++ 91 :: Lib.decDigits n ++ [93]) w hE (by simp;omega))
 have hfin:=Hd (show declT t (x ++ 91 :: Lib.decDigits n ++ [93]) = declT (.arr n t) x by rw [declT])
 have hnb:(n:Int) ≤ 1099511627776:=by have:=hr.1;omega
 generalize tyB (.arr n t) = s at *
 generalize strB (x ++ 91 :: Lib.decDigits n ++ [93]) = y3 at *
 generalize strB (x ++ [91] ++ Lib.decDigits n) = y2 at *
 generalize strB (x ++ [91]) = y1 at *
 generalize strB (Lib.decDigits n) = y0 at *
 generalize strB x = y at *
 clear hc hr hl hz ih hE hcl hI he
 go_enter Tryz.func151,Tryz.ntmps151
 go_wp2_with (go_at_call 150;(with_reducible refine (HS.out _ HE.out.te.maxl).mono ?_))
 rintro e w1 ⟨rfl,hb1⟩
 have HE1:=Hd (HE.out.below hb1)
 have HB1:=Hd hb1
 clear hb1
 go_wp2_with (go_at_call 185;(with_reducible refine (HIt.out _ HE1.out.pow).mono ?_))
 rintro e w2 ⟨rfl,hb2⟩
 have HE2:=Hd (HE1.out.below hb2)
 have HB2:=Ht HB1 hb2
 clear hb2
 go_wp2_with (go_at_call 151;(with_reducible refine (HI.out _ HE2.out).mono ?_))
 rintro e w3 ⟨rfl,hb3⟩
 have HB3:=Ht HB2 hb3
 rw [hfin.out]
 clear hb3
 go_wp2_with fail
 go_ret
 exact ⟨rfl,HB3.out⟩
theorem own_formT {w:World} {base:Nat} {e:TypeId} {size:Nat} {v:Value} {n:Nat} {xs:List Value} (h:w.ownsRow base e size v n xs):∃ a cap,v = .slice a n cap ∧ (0 < n → ∃ g,a = some ⟨g,0,none⟩ ∧ base ≤ g ∧ g < w.heap.size ∧ ∀ j u,xs[j]? = some u → w.cell? ⟨g,j,none⟩ = some u):=by
 rcases h.2 with ⟨rfl,rfl⟩ | ⟨g,cap,cur,rfl,hb,hg,_⟩
 ·exact ⟨_,_,rfl,fun h=>by omega⟩
 ·refine ⟨_,_,rfl,fun _=>⟨g,rfl,hb,lt_of_heap hg,fun j u hj=>?_⟩⟩
  have:=h.cells (g:=g) rfl j u hj
  rwa [addr_add] at this
theorem declTs_map (l:List Ty):declTs l = l.map fun t=>declT t []:=by
 induction l with
 | nil=>rfl
 | cons t l ih=>rw [declTs,ih];rfl
theorem declTs_take {ps:List Ty} {k:Nat} (h:k < ps.length):(declTs (ps.take (k + 1))).map (fun l=>Value.string (strB l)) = (declTs (ps.take k)).map (fun l=>Value.string (strB l)) ++ [.string (strB (declT ps[k] []))]:=by
 rw [List.take_succ_eq_append_getElem h,declTs_map,declTs_map]
 simp only [List.map_append,List.map_cons,List.map_nil]
theorem codes_mem':∀ {l:List Ty} {t:Ty},t ∈ l → (code t).length ≤ (codes l).length
 | [],_,h=>by cases h
 | u :: [],t,h=>by
   rcases List.mem_cons.1 h with rfl | e
   ·rw [codes];simp
   ·cases e
 | u :: v :: l,t,h=>by
   rw [codes_cons,codes'_cons]
   rcases List.mem_cons.1 h with rfl | e
   ·simp
   ·have:=codes_mem' e
    simp;omega
theorem join_comma:∀ L:List (List UInt8),Lib.join L [44,32] = commaL L
 | []=>rfl
 | [x]=>by simp [Lib.join,List.intercalate,commaL]
 | x :: y :: l=>by
   have ih:=join_comma (y :: l)
   rw [commaL,← ih]
   simp [Lib.join,List.intercalate]
theorem infoS:(Tryz.prog.info? 9).map (fun i=>(i.zero,i.size,i.bytes)) = some (some (.string ⟨#[]⟩),1,16):=by kernel_rfl
theorem join_row {w:World} {g cap:Nat} {L:List (List UInt8)} (hc:∀ j u,(L.map fun l=>Value.string (strB l))[j]? = some u → w.cell? ⟨g,j,none⟩ = some u) (hg:g < w.heap.size) (hcap:L.length ≤ cap) (hn:L.length ≤ 140737488355328) (hl:(commaL L).length ≤ 140737488355328) :
 Calls Tryz.prog 103 #[.slice (some ⟨g,0,none⟩) L.length cap,.string ⟨#[44,32]⟩] w fun e w'=>e = .returned (.string (strB (commaL L))) ∧ Below w.heap.size w w':=by
 have hj:=Tryz.strings_Join g 0 cap (L.map strB) ⟨#[44,32]⟩ w (fun j x hx=>by
  rw [Nat.zero_add]
  refine hc j _ ?_
  rw [List.getElem?_map] at hx ⊢
  obtain ⟨l,h1,h2⟩:=Option.map_eq_some_iff.1 hx
  rw [h1,← h2];rfl) hg (by rw [List.length_map];exact hn) (by rw [List.length_map];exact hcap)
 have e:(L.map strB).map (fun s=>s.data.toList) = L:=by
  rw [List.map_map]
  conv=>rhs;rw [← List.map_id L]
  exact List.map_congr_left fun x _=>strB_list x
 rw [e,List.length_map,show (⟨#[44,32]⟩:ByteArray).data.toList = [44,32] from rfl,join_comma] at hj
 exact hj hl
set_option maxHeartbeats 4000000 in
set_option maxRecDepth 100000 in
theorem decl_fn (ps:List Ty) (r:Ty) (hr:Right (.fn ps r)) (hl:(code (.fn ps r)).length ≤ 65536) (ih:∀ p ∈ ps,DeclC p) (ihr:DeclC r):DeclC (.fn ps r):=by
 intro x w hE hz
 have HE:=Hd hE
 have hcl:(code (.fn ps r)).length = (codes ps).length + (code r).length + 3:=by rw [code];simp;omega
 rw [hcl] at hz
 have hpl:=decls_len ps hr.1
 have hps:ps.length ≤ 65536:=by have:=rights_len hr.1;omega
 obtain ⟨h0,hc⟩:=tyB_head (.fn ps r)
 have t1:(((tyB (.fn ps r))[0].toNat:Int) == 112) = false:=eq_false' (d:=112) hc (by simp [headT])
 have t2:(((tyB (.fn ps r))[0].toNat:Int) == 97) = false:=eq_false' (d:=97) hc (by simp [headT])
 have t3:(((tyB (.fn ps r))[0].toNat:Int) == 102) = true:=eq_true' hc
 have HS:=Hd (fun w hK hb=>split_fn ps r w hr hl hK hb)
 have a1:=add_str x [40] (by simp;omega)
 rw [show strB [40] = ⟨#[40]⟩ from rfl] at a1
 have HPl:=Hd hpl
 have HZ:=Hd hz
 have HR:=Hd hr
 have HIp:=Hd ih
 have HIr:=Hd ihr
 generalize tyB (.fn ps r) = s at *
 generalize hy:strB x = y at *
 have HY:=Hd hy
 generalize hy1:strB (x ++ [40]) = y1 at *
 have HY1:=Hd hy1
 obtain ⟨i0,hi,hz0,hz1,hz2⟩:=info_parts infoS
 have HI:=Hd (And.intro hi (And.intro hz0 (And.intro hz1 hz2)))
 clear hc hr hl hz ih ihr hE hcl hpl hy hy1 hi hz0 hz1 hz2
 go_enter Tryz.func151,Tryz.ntmps151
 go_wp2_with (go_at_call 150;(with_reducible refine (HS.out _ HE.out.te.keys HE.out.te.lt).mono ?_))
 rintro e w1 ⟨⟨v,rfl,ho⟩,hb1⟩
 obtain ⟨a,cap,rfl,hsrc⟩:=own_formT ho
 have HSrc:=Hd hsrc
 have HE1:=Hd (HE.out.below hb1)
 have HB1:=Hd hb1
 clear hb1 ho hsrc
 go_wp2_with fail
 go_loopg [11,61] ps.length (fun g lv iv wr=>∃ k:Nat,k + g = ps.length ∧ iv = .int .i64 k ∧ wr.ownsRow w1.heap.size 9 1 lv k ((declTs (ps.take k)).map fun l=>.string (strB l)) ∧ Below w1.heap.size w1 wr)
 case atStart=>exact ⟨0,by omega,rfl,World.ownsRow_nil _ _ _ _,Below.refl _ _⟩
 case round=>
  obtain ⟨k,hk,rfl,hown,hbw⟩:=hrel
  have HO:=Hd hown
  have HB:=Hd hbw
  have hsz:=hbw.size
  clear hown hbw
  by_cases hlt:k < ps.length
  ·obtain ⟨g,rfl,hg1,hg2,hcell⟩:=HSrc.out (by omega)
   have hck:wr.cell? ⟨g,k,none⟩ = some (.string (tyB ps[k])):=by
    rw [HB.out.cell (p:=⟨g,k,none⟩) hg2]
    exact hcell k _ (by rw [List.getElem?_map,List.getElem?_eq_getElem hlt];rfl)
   have HD:=Hd (show Calls Tryz.prog 151 #[.string (tyB ps[k]),.string ⟨#[]⟩] wr fun e w'=>e = .returned (.string (strB (declT ps[k] []))) ∧ Below wr.heap.size wr w' from
    HIp.out ps[k] (List.getElem_mem hlt) [] wr (HE1.out.below HB.out) (by
     have h1:=codes_mem' (List.getElem_mem hlt)
     have:=HZ.out
     simp;omega))
   have HTk:=Hd (declTs_take hlt)
   generalize strB (declT ps[k] []) = z at *
   generalize tyB ps[k] = st at *
   have hkb:k + 1 ≤ 70000:=by omega
   clear hcell
   go_wp2_with (go_at_call 151;(with_reducible refine HD.out.mono ?_))
   rintro e w3 ⟨rfl,hb3⟩
   have HO3:=Hd (HO.out.belowed hb3)
   have HB3:=Hd (HB.out.trans (hb3.mono hsz))
   have hz3:=HB3.out.size
   clear hb3
   go_wp2_with (at_builtin;refine wpList_append_own _ rfl _ _ 97 rfl w1.heap.size 9 i0 (.string ⟨#[]⟩) 1 16 Tryz.underlying97 HI.out.1 HI.out.2.1 HI.out.2.2.1 HI.out.2.2.2 rfl (by decide) _ _ _ rfl (HO3.out.alloc _) ⟨w3.heap.size,0,none⟩ 1 1 [.string z] rfl rfl (fun j u h=>cell_one _ _ _ j u h) (c2_str _) (c3_le hkb) (c4_le hkb) ?c5 ?_)
   case c5=>simp;omega
   intro v' w6 hown hgrow _
   have HO6:=Hd (show w6.ownsRow w1.heap.size 9 1 v' (k + 1) ((declTs (ps.take (k + 1))).map fun l=>.string (strB l)) by rw [HTk.out];exact hown)
   have HA:=Hd (show Below w3.heap.size w3 (w3.alloc (.cells #[.string z] 9)) from (Below.refl _ _).alloc (Nat.le_refl _) _)
   have HB6:=Hd ((HB3.out.trans (HA.out.mono HB3.out.size)).grown hgrow (Nat.le_trans HB3.out.size HA.out.size) (fun q e=>by have:=(HO3.out.lt _ e).1;omega))
   clear hown hgrow
   go_wp2_with fail
   go_roundg (ps.length - (k + 1))
   case measure=>omega
   case rel=>exact ⟨k + 1,by omega,by go_num,HO6.out,HB6.out⟩
  ·obtain rfl:k = ps.length:=by omega
   have HO1:=Hd (show wr.ownsRow w1.heap.size 9 1 u11 ps.length ((declTs ps).map fun l=>.string (strB l)) by have:=HO.out;rwa [List.take_length] at this)
   have hdl:(declTs ps).length = ps.length:=by rw [declTs_map];simp
   clear HO
   obtain ⟨a2,cap2,rfl,hrow⟩:=own_formT HO1.out
   by_cases h1:ps = []
   ·subst h1
    have hZ:=HZ.out
    have hd:declT (.fn [] r) x = declT r (x ++ 40 :: [118,111,105,100] ++ [41]):=by rw [declT,if_pos rfl]
    have a2:=add_str (x ++ [40]) [118,111,105,100] (by simp;omega)
    have a3:=add_str (x ++ [40] ++ [118,111,105,100]) [41] (by simp;omega)
    rw [show strB [41] = ⟨#[41]⟩ from rfl,show x ++ [40] ++ [118,111,105,100] ++ [41] = x ++ 40 :: [118,111,105,100] ++ [41] by simp] at a3
    have HIc:=Hd (fun w hE=>HIr.out (x ++ 40 :: [118,111,105,100] ++ [41]) w hE (by simp;omega))
    have hfin:=Hd hd.symm
    rw [HY1.out] at a2
    have HJ:=Hd (fun (w':World)=>by
     have:=join_row (w:=w'.alloc (.cells #[.string ⟨#[118,111,105,100]⟩] 9)) (g:=w'.heap.size) (cap:=1) (L:=[[118,111,105,100]]) (fun j u hj=>by
      have:=cell_one w' (.string ⟨#[118,111,105,100]⟩) 9 j u hj
      rwa [addr_add] at this) (by simp) (by decide) (by decide) (by decide)
     exact this)
    simp only [commaL,List.length_singleton] at HJ
    generalize strB [118,111,105,100] = yj at *
    generalize strB (x ++ [40] ++ [118,111,105,100]) = y2 at *
    generalize strB (x ++ 40 :: [118,111,105,100] ++ [41]) = y3 at *
    clear hd hdl hrow hZ hsz
    go_wp2_with (go_at_call 103;refine (HJ.out _).mono ?_)
    rintro e w5 ⟨rfl,hb5⟩
    have HB5:=Hd (HB1.out.trans ((HB.out.trans (((Below.refl _ _).alloc (Nat.le_refl _) _ |>.trans (hb5.mono (by simp))).mono HB.out.size)).mono HB1.out.size))
    have HI5:=Hd (HIc.out _ (HE.out.below HB5.out))
    clear hb5
    go_wp2_with (go_at_call 151;(with_reducible refine HI5.out.mono ?_))
    rintro e w6 ⟨rfl,hb6⟩
    rw [hfin.out]
    go_wp2_with fail
    go_ret
    exact ⟨rfl,HB5.out.trans (hb6.mono HB5.out.size)⟩
   ·have hn:0 < ps.length:=List.length_pos_iff.2 h1
    obtain ⟨g,rfl,hg1,hg2,hrow⟩:=hrow hn
    have hcap:ps.length ≤ cap2:=by
     rcases HO1.out.2 with ⟨e,_⟩ | ⟨g',cap',cur,e,_,_,h,_⟩
     ·cases e
     ·cases e;exact h
    have hPl:=HPl.out
    have hZ:=HZ.out
    have HJ:=Hd (fun w' (hw':Below wr.heap.size wr w')=>by
     have:=join_row (w:=w') (g:=g) (cap:=cap2) (L:=declTs ps) (fun j u hj=>by rw [hw'.cell (p:=⟨g,j,none⟩) hg2];exact hrow j u hj) (Nat.lt_of_lt_of_le hg2 hw'.size) (by rw [hdl];exact hcap) (by rw [hdl];omega) (by omega)
     rw [hdl] at this
     exact this)
    have hd:declT (.fn ps r) x = declT r (x ++ 40 :: commaL (declTs ps) ++ [41]):=by rw [declT,if_neg h1]
    have a2:=add_str (x ++ [40]) (commaL (declTs ps)) (by simp;omega)
    have a3:=add_str (x ++ [40] ++ commaL (declTs ps)) [41] (by simp;omega)
    rw [show strB [41] = ⟨#[41]⟩ from rfl,show x ++ [40] ++ commaL (declTs ps) ++ [41] = x ++ 40 :: commaL (declTs ps) ++ [41] by simp] at a3
    have HIc:=Hd (fun w hE=>HIr.out (x ++ 40 :: commaL (declTs ps) ++ [41]) w hE (by simp;omega))
    have hfin:=Hd hd.symm
    have t4:((ps.length:Int) == 0) = false:=by rw [beq_eq_false_iff_ne];omega
    rw [HY1.out] at a2
    have hlp:(ps.length:Int) ≤ 65536:=by omega
    generalize strB (commaL (declTs ps)) = yj at *
    generalize strB (x ++ [40] ++ commaL (declTs ps)) = y2 at *
    generalize strB (x ++ 40 :: commaL (declTs ps) ++ [41]) = y3 at *
    have HB:=Hd HB.out
    clear hd hdl hrow hcap hPl hZ h1 hn hsz
    go_wp2_with (go_at_call 103;refine (HJ.out _ (Below.refl _ _)).mono ?_)
    rintro e w5 ⟨rfl,hb5⟩
    have HB5:=Hd (HB1.out.trans ((HB.out.trans (hb5.mono HB.out.size)).mono HB1.out.size))
    have HI5:=Hd (HIc.out _ (HE.out.below HB5.out))
    clear hb5
    go_wp2_with (go_at_call 151;(with_reducible refine HI5.out.mono ?_))
    rintro e w6 ⟨rfl,hb6⟩
    rw [hfin.out]
    go_wp2_with fail
    go_ret
    exact ⟨rfl,HB5.out.trans (hb6.mono HB5.out.size)⟩
theorem declared_ok:∀ (n:Nat) (t:Ty),(code t).length ≤ n → Right t → (code t).length ≤ 65536 → DeclC t
 | 0,t,hn,hr,_=>by have:=code_pos hr;omega
 | n + 1,t,hn,hr,hl=>by
   cases t with
   | base c=>exact decl_root _ hr (.inl ⟨c,rfl⟩) hl
   | str s=>exact decl_root _ hr (.inr ⟨s,rfl⟩) hl
   | ptr u=>exact decl_ptr u hr hl (declared_ok n u (by rw [code] at hn;simp at hn;omega) hr (by rw [code] at hl;simp at hl;omega))
   | arr m u=>exact decl_arr m u hr hl (declared_ok n u (by rw [code] at hn;simp at hn;omega) hr.2 (by rw [code] at hl;simp at hl;omega))
   | fn ps r=>
     refine decl_fn ps r hr hl (fun p hp=>?_) (declared_ok n r (by rw [code] at hn;simp at hn;omega) hr.2 (by rw [code] at hl;simp at hl;omega))
     have h1:=codes_mem' hp
     have h2:Right p:=by
      obtain ⟨a,b,rfl⟩:=List.append_of_mem hp
      exact rights_at hr.1
     rw [code] at hn hl
     simp at hn hl
     exact declared_ok n p (by omega) h2 (by omega)
def ShapeC (t:Ty):Prop:=∀ w,TE w → Calls Tryz.prog 201 #[.string (tyB t)] w fun e w'=>e = .returned (.bool (shapeT t)) ∧ Below w.heap.size w w'
theorem tyS_tyB {t:Ty} (hr:Right t) (hl:(code t).length ≤ 65536):tyS (tyB t) = some t:=tyS_some.2 ⟨rfl,hr,hl⟩
theorem isScal_is (r:Bool) {t:Ty} (w:World) (hE:TE w) (hr:Right t) (hl:(code t).length ≤ 65536) (h:isScalarT t = r):Calls Tryz.prog 234 #[.string (tyB t)] w fun e w'=>e = .returned (.bool r) ∧ Below w.heap.size w w':=by
 have:=isScalar_ok (tyB t) w hE
 rw [show isScalS (tyB t) = isScalarT t by unfold isScalS;rw [tyS_tyB hr hl];rfl,h] at this
 exact this
theorem shape_clo (p:Ty) (w:World) (hE:TE w) (hr:Right p) (hl:(code p).length ≤ 65536) (ih:ShapeC p) :
 Calls Tryz.prog 236 #[.string (tyB p)] w fun e w'=>e = .returned (.bool (!(isScalarT p && shapeT p))) ∧ Below w.heap.size w w':=by
 have HE:=Hd hE
 unfold ShapeC at ih
 have HI:=Hd ih
 rcases hs:isScalarT p with _ | _
 ·have H:=Hd (isScal_is false w hE hr hl hs)
  clear hs hE ih
  go_enter Tryz.func236,Tryz.ntmps236
  go_wp2_with (go_at_call 234;(with_reducible refine H.out.mono ?_);rintro e w1 ⟨rfl,hb1⟩)
  go_ret
  exact ⟨rfl,hb1⟩
 ·have H:=Hd (isScal_is true w hE hr hl hs)
  clear hs hE ih
  generalize hsh:shapeT p = b at *
  have HSh:=Hd hsh
  clear hsh
  go_enter Tryz.func236,Tryz.ntmps236
  go_wp2_with (go_at_call 234;(with_reducible refine H.out.mono ?_))
  rintro e w1 ⟨rfl,hb1⟩
  go_wp2_with (go_at_call 201;(with_reducible refine (HI.out _ (HE.out.below hb1)).mono ?_))
  rintro e w2 ⟨rfl,hb2⟩
  go_wp2_with fail
  go_ret
  exact ⟨by simp,hb1.trans (hb2.mono hb1.size)⟩
theorem shapes_all (l:List Ty):shapesT l = l.all fun p=>isScalarT p && shapeT p:=by
 induction l with
 | nil=>rfl
 | cons t l ih=>rw [shapesT,ih];rfl
set_option maxHeartbeats 2000000 in
theorem shape_idx (ps:List Ty) (g cap:Nat) (w:World) (hE:TE w) (hg:g < w.heap.size) (hr:Rights ps) (hl:∀ p ∈ ps,(code p).length ≤ 65536) (ih:∀ p ∈ ps,ShapeC p) (hn:ps.length ≤ 65536)
 (hc:∀ j (hj:j < ps.length),w.cell? ⟨g,j,none⟩ = some (.string (tyB ps[j]))) :
 Calls Tryz.prog 251 #[.slice (some ⟨g,0,none⟩) ps.length cap,.func (.func 236) #[] #[]] w fun e w'=>∃ o:Int,e = .returned (.int .i64 o) ∧ decide (0 ≤ o) = !shapesT ps ∧ Below w.heap.size w w':=by
 have HE:=Hd hE
 have HC:=Hd hc
 have HI:=Hd ih
 have HL:=Hd hl
 have HR:=Hd hr
 clear hE hc ih hl hr
 go_enter Tryz.func251,Tryz.ntmps251
 go_wp2_with fail
 go_loopw [8] (fun i wr=>∃ k:Nat,k ≤ ps.length ∧ i = .int .i64 k ∧ Hid (∀ j (hj:j < ps.length),j < k → (isScalarT ps[j] && shapeT ps[j]) = true) ∧ Below w.heap.size w wr) (fun i _=>ps.length - (intOf i).toNat)
 case atStart=>exact ⟨0,Nat.zero_le _,rfl,fun j _ h=>by omega,Below.refl _ _⟩
 case round=>
  obtain ⟨k,hk,rfl,hno,hb⟩:=hrel
  have HB:=Hd hb
  have hsz:=hb.size
  by_cases hlt:k < ps.length
  ·have hck:wr.cell? ⟨g,k,none⟩ = some (.string (tyB ps[k])):=by
    rw [hb.cell (p:=⟨g,k,none⟩) hg];exact HC.out k hlt
   have hm:ps[k] ∈ ps:=List.getElem_mem hlt
   have HD:=Hd (shape_clo ps[k] wr (HE.out.below hb) (by
    obtain ⟨a,b,e⟩:=List.append_of_mem hm
    have h:=HR.out
    rw [e] at h
    exact rights_at h) (HL.out _ hm) (HI.out _ hm))
   clear hb hm
   rcases hgd:(isScalarT ps[k] && shapeT ps[k]) with _ | _
   ·have hfin:=Hd (show shapesT ps = false by
     rw [shapes_all,Bool.eq_false_iff];intro e
     have:=List.all_eq_true.1 e ps[k] (List.getElem_mem hlt)
     rw [hgd] at this;cases this)
    rw [hgd] at HD
    generalize tyB ps[k] = st at *
    clear hgd
    go_wp2_with (go_at_call 236;(with_reducible refine HD.out.mono ?_))
    rintro e w2 ⟨rfl,hb2⟩
    go_wp2_with fail
    go_ret
    exact ⟨_,rfl,by rw [hfin.out];simp,HB.out.trans (hb2.mono hsz)⟩
   ·have HN:=Hd (show ∀ j (hj:j < ps.length),j < k + 1 → (isScalarT ps[j] && shapeT ps[j]) = true from fun j hj h=>by
     rcases Nat.lt_or_ge j k with h' | h'
     ·exact hno.out j hj h'
     ·obtain rfl:j = k:=by omega
      exact hgd)
    rw [hgd] at HD
    generalize tyB ps[k] = st at *
    clear hgd
    go_wp2_with (go_at_call 236;(with_reducible refine HD.out.mono ?_))
    rintro e w2 ⟨rfl,hb2⟩
    have HB2:=Hd (HB.out.trans (hb2.mono hsz))
    clear hb2
    go_wp2_with fail
    go_roundw
    case rel=>exact ⟨k + 1,by omega,by go_num,HN,HB2.out⟩
    case measure=>simp [intOf];omega
  ·obtain rfl:k = ps.length:=by omega
   have hfin:=Hd (show shapesT ps = true by
    rw [shapes_all,List.all_eq_true]
    intro p hp
    obtain ⟨j,hj,rfl⟩:=List.getElem_of_mem hp
    exact hno.out j hj hj)
   clear hno hb
   go_wp2_with fail
   go_ret
   exact ⟨-1,rfl,by rw [hfin.out];rfl,HB.out⟩
theorem idx_empty (a:Option Addr) (cap:Nat) (f:Value) (w:World):Calls Tryz.prog 251 #[.slice a 0 cap,f] w fun e w'=>e = .returned (.int .i64 (-1)) ∧ w' = w:=by
 go_enter Tryz.func251,Tryz.ntmps251
 go_wp2_with fail
 go_loop [8] (fun i=>i = .int .i64 0) (fun _=>0)
 case atStart=>rfl
 case round=>
  obtain rfl:=hrel
  go_wp2_with fail
  go_ret
  exact ⟨rfl,rfl⟩
theorem shape_has (ps:List Ty) (v:Value) (n:Nat) (B:Nat) (w:World) (hE:TE w) (hB:w.ownsRow B 34 1 v n (ps.map fun p=>.string (tyB p))) (hn:n = ps.length) (hr:Rights ps) (hl:∀ p ∈ ps,(code p).length ≤ 65536) (ih:∀ p ∈ ps,ShapeC p) (hnl:ps.length ≤ 65536) :
 Calls Tryz.prog 235 #[v,.func (.func 236) #[] #[]] w fun e w'=>e = .returned (.bool (!shapesT ps)) ∧ Below w.heap.size w w':=by
 obtain ⟨a,cap,rfl,hrow⟩:=own_formT hB
 subst hn
 by_cases h0:ps = []
 ·subst h0
  clear hE hB hr hl ih hrow hnl
  go_enter Tryz.func235,Tryz.ntmps235
  go_wp2_with (go_at_call 251;(with_reducible refine (idx_empty _ _ _ _).mono ?_);rintro e w1 ⟨rfl,rfl⟩)
  go_ret
  exact ⟨rfl,Below.refl _ _⟩
 ·obtain ⟨g,rfl,hg1,hg2,hc⟩:=hrow (List.length_pos_iff.2 h0)
  have H:=Hd (shape_idx ps g cap w hE hg2 hr hl ih hnl (fun j hj=>hc j _ (by rw [List.getElem?_map,List.getElem?_eq_getElem hj];rfl)))
  clear hE hB hr hl ih hrow hc
  go_enter Tryz.func235,Tryz.ntmps235
  go_wp2_with (go_at_call 251;(with_reducible refine H.out.mono ?_);rintro e w1 ⟨o,rfl,ho,hb1⟩;have HO:=Hd ho;clear ho)
  go_ret
  exact ⟨by rw [← HO.out];rfl,hb1⟩
end Go.Proofs.YtkokdafkjjcgoaaGreatDoor
