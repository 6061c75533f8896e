/- Operations on numbers as the package offers them: the refere -/
import Derived.Test.YtlcfejgjeljjdaaGreatDoorFoldRB
import Derived.Test.YtlcfejgjeljjdaaGreatDoorFoldTP
namespace Go.Proofs.YtlcfejgjeljjdaaGreatDoor
open Go.RowKit
def meetT (m x y:ByteArray):ByteArray:=if m = mShl ∨ m = mShr then promI x else commI x y
def meetA (m x y:ByteArray) (a:Int):Int:=if m = mAnd2 ∨ m = mOr2 then a else asI a (meetT m x y)
def meetB (m x y:ByteArray) (b:Int):Int:=if m = mAnd2 ∨ m = mOr2 ∨ m = mShl ∨ m = mShr then b else asI b (commI x y)
theorem mono_reck {F:FuncId} {xs:Array Value} {w:World} {u v:Option Int} (h:Calls Tryz.prog F xs w fun e w'=>e = .returned (reckV u) ∧ Below w.heap.size w w') (e:u = v):Calls Tryz.prog F xs w fun e w'=>e = .returned (reckV v) ∧ Below w.heap.size w w':=e ▸ h
theorem asI_uid {n:Int} (h:0 ≤ n ∧ n < 4294967296):asI n uText12 = n:=by unfold asI;rw [if_pos rfl,mod_word h]
theorem rreck_ok (m:ByteArray) (hm:Lib.containsS binMarks m = true) (x y:ByteArray) (a b:Int) (w:World) :
 Calls Tryz.prog 37 #[.string m,.int .i64 (meetA m x y a),.int .i64 (meetB m x y b),.string (meetT m x y)] w fun e w'=>e = .returned (reckV ((binI m x a y b).map Prod.snd)) ∧ Below w.heap.size w w':=by
 have hc:=commI_ui x y
 have hA:=asI_range a (commI x y)
 have hB:=asI_range b (commI x y)
 rcases mem_bin hm with h | h | h | h | h | h | h | h | h | h | h | h | h | h | h | h | h | h <;> subst h <;> clear hm
 ·exact mono_reck (reck_mul (asI a (commI x y)) (asI b (commI x y)) (commI x y) w) rfl
 ·by_cases hz:asI b (commI x y) = 0
  ·refine mono_reck (reck_div0 (asI a (commI x y)) (asI b (commI x y)) (commI x y) w (fit_as _ hc) (fit_as _ hc) hz) ?_
   show none = ((if asI b (commI x y) = 0 then none else some _).map _).map Prod.snd
   rw [if_pos hz];rfl
  ·refine mono_reck (reck_div1 (asI a (commI x y)) (asI b (commI x y)) (commI x y) w (fit_as _ hc) (fit_as _ hc) hz) ?_
   show some (asI ((asI a (commI x y)).tdiv (asI b (commI x y))) (commI x y)) = ((if asI b (commI x y) = 0 then none else some _).map _).map Prod.snd
   rw [if_neg hz];rfl
 ·by_cases hz:asI b (commI x y) = 0
  ·refine mono_reck (reck_rem0 (asI a (commI x y)) (asI b (commI x y)) (commI x y) w (fit_as _ hc) (fit_as _ hc) hz) ?_
   show none = ((if asI b (commI x y) = 0 then none else some _).map _).map Prod.snd
   rw [if_pos hz];rfl
  ·refine mono_reck (reck_rem1 (asI a (commI x y)) (asI b (commI x y)) (commI x y) w (fit_as _ hc) (fit_as _ hc) hz) ?_
   show some (asI ((asI a (commI x y)).tmod (asI b (commI x y))) (commI x y)) = ((if asI b (commI x y) = 0 then none else some _).map _).map Prod.snd
   rw [if_neg hz];rfl
 ·exact mono_reck (reck_add (asI a (commI x y)) (asI b (commI x y)) (commI x y) w hA hB) rfl
 ·exact mono_reck (reck_sub (asI a (commI x y)) (asI b (commI x y)) (commI x y) w hA hB) rfl
 ·exact mono_reck (reck_shl (asI a (promI x)) b (promI x) w) rfl
 ·rcases promI_ui x with hp | hp
  ·refine mono_reck (reck_shru (asI a (promI x)) b (promI x) w hp) ?_
   show some (shruW (asI a (promI x)) b) = some (asI (if promI x = iText12 then shrsW (asI a (promI x)) b else shruW (asI a (promI x)) b) (promI x))
   rw [if_neg (by rw [hp];decide),hp,asI_uid (shru_range _ _)]
  ·refine mono_reck (reck_shrs (asI a (promI x)) b (promI x) w (by rw [hp];decide)) ?_
   show some (asI (shrsW (asI a (promI x)) b) (promI x)) = some (asI (if promI x = iText12 then shrsW (asI a (promI x)) b else shruW (asI a (promI x)) b) (promI x))
   rw [if_pos hp]
 ·exact mono_reck (reck_lt (asI a (commI x y)) (asI b (commI x y)) (commI x y) w) rfl
 ·exact mono_reck (reck_gt (asI a (commI x y)) (asI b (commI x y)) (commI x y) w) rfl
 ·exact mono_reck (reck_le (asI a (commI x y)) (asI b (commI x y)) (commI x y) w) rfl
 ·exact mono_reck (reck_ge (asI a (commI x y)) (asI b (commI x y)) (commI x y) w) rfl
 ·refine mono_reck (reck_eq (asI a (commI x y)) (asI b (commI x y)) (commI x y) w) ?_
  rw [beq_dec];rfl
 ·refine mono_reck (reck_ne (asI a (commI x y)) (asI b (commI x y)) (commI x y) w) ?_
  rw [bne_dec];rfl
 ·exact mono_reck (reck_and (asI a (commI x y)) (asI b (commI x y)) (commI x y) w) rfl
 ·exact mono_reck (reck_xor (asI a (commI x y)) (asI b (commI x y)) (commI x y) w) rfl
 ·exact mono_reck (reck_or (asI a (commI x y)) (asI b (commI x y)) (commI x y) w) rfl
 ·by_cases hz:a = 0
  ·exact mono_reck (reck_both0 a b (commI x y) w hz) rfl
  ·exact mono_reck (reck_both1 a b (commI x y) w hz) rfl
 ·by_cases hz:a = 0
  ·exact mono_reck (reck_either0 a b (commI x y) w hz) rfl
  ·exact mono_reck (reck_either1 a b (commI x y) w hz) rfl
theorem rmade_ok (m x y:ByteArray) (hx:IntT x) (hy:IntT y) (w:World):Calls Tryz.prog 38 #[.string m,.string x,.string y] w fun e w'=>e = .returned (.string (madeK m x y)) ∧ Below w.heap.size w w':=by
 have HP:=Hd ((promoteV_int hx) ▸ refPromote_ok x w)
 have HC:=Hd ((commonV_int hx hy) ▸ refCommon_ok x y w)
 clear hx hy
 by_cases m0:m = mShl
 ·have HFin:=Hd (show promI x = madeK m x y from by rw [m0];rfl)
  have t0:(m.toList == [60,60]) = true:=by rw [m0];exact lit_eq rfl rfl
  clear m0
  generalize promI x = p at *
  go_enter Tryz.func38,Tryz.ntmps38
  go_wp2_with (go_at_call 36;(with_reducible refine HP.out.mono ?_);rintro e w1 ⟨rfl,hb1⟩;have HB1:=Hd hb1;clear hb1)
  go_ret
  exact ⟨by rw [← HFin.out];rfl,HB1.out⟩
 by_cases m1:m = mShr
 ·have HFin:=Hd (show promI x = madeK m x y from by rw [m1];rfl)
  have t0:(m.toList == [60,60]) = false:=lit_ne (fun e=>m0 (bytes_of e))
  have t1:(m.toList == [62,62]) = true:=by rw [m1];exact lit_eq rfl rfl
  clear m0 m1
  generalize promI x = p at *
  go_enter Tryz.func38,Tryz.ntmps38
  go_wp2_with (go_at_call 36;(with_reducible refine HP.out.mono ?_);rintro e w1 ⟨rfl,hb1⟩;have HB1:=Hd hb1;clear hb1)
  go_ret
  exact ⟨by rw [← HFin.out];rfl,HB1.out⟩
 by_cases m2:m = mLt
 ·have HFin:=Hd (show iText12 = madeK m x y from by rw [m2];rfl)
  have t0:(m.toList == [60,60]) = false:=lit_ne (fun e=>m0 (bytes_of e))
  have t1:(m.toList == [62,62]) = false:=lit_ne (fun e=>m1 (bytes_of e))
  have t2:(m.toList == [60]) = true:=by rw [m2];exact lit_eq rfl rfl
  clear m0 m1 m2
  go_enter Tryz.func38,Tryz.ntmps38
  go_wp2_with fail
  go_ret
  exact ⟨by rw [← HFin.out];rfl,Below.refl _ _⟩
 by_cases m3:m = mGt
 ·have HFin:=Hd (show iText12 = madeK m x y from by rw [m3];rfl)
  have t0:(m.toList == [60,60]) = false:=lit_ne (fun e=>m0 (bytes_of e))
  have t1:(m.toList == [62,62]) = false:=lit_ne (fun e=>m1 (bytes_of e))
  have t2:(m.toList == [60]) = false:=lit_ne (fun e=>m2 (bytes_of e))
  have t3:(m.toList == [62]) = true:=by rw [m3];exact lit_eq rfl rfl
  clear m0 m1 m2 m3
  go_enter Tryz.func38,Tryz.ntmps38
  go_wp2_with fail
  go_ret
  exact ⟨by rw [← HFin.out];rfl,Below.refl _ _⟩
 by_cases m4:m = mLe
 ·have HFin:=Hd (show iText12 = madeK m x y from by rw [m4];rfl)
  have t0:(m.toList == [60,60]) = false:=lit_ne (fun e=>m0 (bytes_of e))
  have t1:(m.toList == [62,62]) = false:=lit_ne (fun e=>m1 (bytes_of e))
  have t2:(m.toList == [60]) = false:=lit_ne (fun e=>m2 (bytes_of e))
  have t3:(m.toList == [62]) = false:=lit_ne (fun e=>m3 (bytes_of e))
  have t4:(m.toList == [60,61]) = true:=by rw [m4];exact lit_eq rfl rfl
  clear m0 m1 m2 m3 m4
  go_enter Tryz.func38,Tryz.ntmps38
  go_wp2_with fail
  go_ret
  exact ⟨by rw [← HFin.out];rfl,Below.refl _ _⟩
 by_cases m5:m = mGe
 ·have HFin:=Hd (show iText12 = madeK m x y from by rw [m5];rfl)
  have t0:(m.toList == [60,60]) = false:=lit_ne (fun e=>m0 (bytes_of e))
  have t1:(m.toList == [62,62]) = false:=lit_ne (fun e=>m1 (bytes_of e))
  have t2:(m.toList == [60]) = false:=lit_ne (fun e=>m2 (bytes_of e))
  have t3:(m.toList == [62]) = false:=lit_ne (fun e=>m3 (bytes_of e))
  have t4:(m.toList == [60,61]) = false:=lit_ne (fun e=>m4 (bytes_of e))
  have t5:(m.toList == [62,61]) = true:=by rw [m5];exact lit_eq rfl rfl
  clear m0 m1 m2 m3 m4 m5
  go_enter Tryz.func38,Tryz.ntmps38
  go_wp2_with fail
  go_ret
  exact ⟨by rw [← HFin.out];rfl,Below.refl _ _⟩
 by_cases m6:m = mEq
 ·have HFin:=Hd (show iText12 = madeK m x y from by rw [m6];rfl)
  have t0:(m.toList == [60,60]) = false:=lit_ne (fun e=>m0 (bytes_of e))
  have t1:(m.toList == [62,62]) = false:=lit_ne (fun e=>m1 (bytes_of e))
  have t2:(m.toList == [60]) = false:=lit_ne (fun e=>m2 (bytes_of e))
  have t3:(m.toList == [62]) = false:=lit_ne (fun e=>m3 (bytes_of e))
  have t4:(m.toList == [60,61]) = false:=lit_ne (fun e=>m4 (bytes_of e))
  have t5:(m.toList == [62,61]) = false:=lit_ne (fun e=>m5 (bytes_of e))
  have t6:(m.toList == [61,61]) = true:=by rw [m6];exact lit_eq rfl rfl
  clear m0 m1 m2 m3 m4 m5 m6
  go_enter Tryz.func38,Tryz.ntmps38
  go_wp2_with fail
  go_ret
  exact ⟨by rw [← HFin.out];rfl,Below.refl _ _⟩
 by_cases m7:m = mNe
 ·have HFin:=Hd (show iText12 = madeK m x y from by rw [m7];rfl)
  have t0:(m.toList == [60,60]) = false:=lit_ne (fun e=>m0 (bytes_of e))
  have t1:(m.toList == [62,62]) = false:=lit_ne (fun e=>m1 (bytes_of e))
  have t2:(m.toList == [60]) = false:=lit_ne (fun e=>m2 (bytes_of e))
  have t3:(m.toList == [62]) = false:=lit_ne (fun e=>m3 (bytes_of e))
  have t4:(m.toList == [60,61]) = false:=lit_ne (fun e=>m4 (bytes_of e))
  have t5:(m.toList == [62,61]) = false:=lit_ne (fun e=>m5 (bytes_of e))
  have t6:(m.toList == [61,61]) = false:=lit_ne (fun e=>m6 (bytes_of e))
  have t7:(m.toList == [33,61]) = true:=by rw [m7];exact lit_eq rfl rfl
  clear m0 m1 m2 m3 m4 m5 m6 m7
  go_enter Tryz.func38,Tryz.ntmps38
  go_wp2_with fail
  go_ret
  exact ⟨by rw [← HFin.out];rfl,Below.refl _ _⟩
 by_cases m8:m = mAnd2
 ·have HFin:=Hd (show iText12 = madeK m x y from by rw [m8];rfl)
  have t0:(m.toList == [60,60]) = false:=lit_ne (fun e=>m0 (bytes_of e))
  have t1:(m.toList == [62,62]) = false:=lit_ne (fun e=>m1 (bytes_of e))
  have t2:(m.toList == [60]) = false:=lit_ne (fun e=>m2 (bytes_of e))
  have t3:(m.toList == [62]) = false:=lit_ne (fun e=>m3 (bytes_of e))
  have t4:(m.toList == [60,61]) = false:=lit_ne (fun e=>m4 (bytes_of e))
  have t5:(m.toList == [62,61]) = false:=lit_ne (fun e=>m5 (bytes_of e))
  have t6:(m.toList == [61,61]) = false:=lit_ne (fun e=>m6 (bytes_of e))
  have t7:(m.toList == [33,61]) = false:=lit_ne (fun e=>m7 (bytes_of e))
  have t8:(m.toList == [38,38]) = true:=by rw [m8];exact lit_eq rfl rfl
  clear m0 m1 m2 m3 m4 m5 m6 m7 m8
  go_enter Tryz.func38,Tryz.ntmps38
  go_wp2_with fail
  go_ret
  exact ⟨by rw [← HFin.out];rfl,Below.refl _ _⟩
 by_cases m9:m = mOr2
 ·have HFin:=Hd (show iText12 = madeK m x y from by rw [m9];rfl)
  have t0:(m.toList == [60,60]) = false:=lit_ne (fun e=>m0 (bytes_of e))
  have t1:(m.toList == [62,62]) = false:=lit_ne (fun e=>m1 (bytes_of e))
  have t2:(m.toList == [60]) = false:=lit_ne (fun e=>m2 (bytes_of e))
  have t3:(m.toList == [62]) = false:=lit_ne (fun e=>m3 (bytes_of e))
  have t4:(m.toList == [60,61]) = false:=lit_ne (fun e=>m4 (bytes_of e))
  have t5:(m.toList == [62,61]) = false:=lit_ne (fun e=>m5 (bytes_of e))
  have t6:(m.toList == [61,61]) = false:=lit_ne (fun e=>m6 (bytes_of e))
  have t7:(m.toList == [33,61]) = false:=lit_ne (fun e=>m7 (bytes_of e))
  have t8:(m.toList == [38,38]) = false:=lit_ne (fun e=>m8 (bytes_of e))
  have t9:(m.toList == [124,124]) = true:=by rw [m9];exact lit_eq rfl rfl
  clear m0 m1 m2 m3 m4 m5 m6 m7 m8 m9
  go_enter Tryz.func38,Tryz.ntmps38
  go_wp2_with fail
  go_ret
  exact ⟨by rw [← HFin.out];rfl,Below.refl _ _⟩
 have HFin:=Hd (show commI x y = madeK m x y from by unfold madeK;simp [m0,m1,m2,m3,m4,m5,m6,m7,m8,m9])
 have t0:(m.toList == [60,60]) = false:=lit_ne (fun e=>m0 (bytes_of e))
 have t1:(m.toList == [62,62]) = false:=lit_ne (fun e=>m1 (bytes_of e))
 have t2:(m.toList == [60]) = false:=lit_ne (fun e=>m2 (bytes_of e))
 have t3:(m.toList == [62]) = false:=lit_ne (fun e=>m3 (bytes_of e))
 have t4:(m.toList == [60,61]) = false:=lit_ne (fun e=>m4 (bytes_of e))
 have t5:(m.toList == [62,61]) = false:=lit_ne (fun e=>m5 (bytes_of e))
 have t6:(m.toList == [61,61]) = false:=lit_ne (fun e=>m6 (bytes_of e))
 have t7:(m.toList == [33,61]) = false:=lit_ne (fun e=>m7 (bytes_of e))
 have t8:(m.toList == [38,38]) = false:=lit_ne (fun e=>m8 (bytes_of e))
 have t9:(m.toList == [124,124]) = false:=lit_ne (fun e=>m9 (bytes_of e))
 clear m0 m1 m2 m3 m4 m5 m6 m7 m8 m9
 generalize commI x y = p at *
 go_enter Tryz.func38,Tryz.ntmps38
 go_wp2_with (go_at_call 35;(with_reducible refine HC.out.mono ?_);rintro e w1 ⟨rfl,hb1⟩;have HB1:=Hd hb1;clear hb1)
 go_ret
 exact ⟨by rw [← HFin.out];rfl,HB1.out⟩
theorem str_cells {w:World} {b:Nat} {T:TypeId} {cs:Array Value} {zs:List ByteArray} (h:w.heap[b]? = some (.cells cs T (0,0))) (hc:cs.toList = zs.map Value.string) (j:Nat) (hj:j < zs.length):w.cell? ⟨b,j,none⟩ = some (.string (zs.getD j ByteArray.empty)):=by
 have h1:cs.toList[j]? = some (.string (zs.getD j ByteArray.empty)):=by
  rw [hc,List.getElem?_map,List.getElem?_eq_getElem hj,List.getD_eq_getElem?_getD,List.getElem?_eq_getElem hj]
  rfl
 simp [World.cell?,h]
 simpa using h1
theorem rbinaries_ok (w:World):Calls Tryz.prog 32 #[] w fun e w'=>e = .returned (.slice (some ⟨w.heap.size,0,none⟩) 18 18) ∧ w' = w.alloc (.cells #[.string ⟨#[42]⟩,.string ⟨#[47]⟩,.string ⟨#[37]⟩,.string ⟨#[43]⟩,.string ⟨#[45]⟩,.string ⟨#[60,60]⟩,.string ⟨#[62,62]⟩,.string ⟨#[60]⟩,.string ⟨#[62]⟩,.string ⟨#[60,61]⟩,.string ⟨#[62,61]⟩,.string ⟨#[61,61]⟩,.string ⟨#[33,61]⟩,.string ⟨#[38]⟩,.string ⟨#[94]⟩,.string ⟨#[124]⟩,.string ⟨#[38,38]⟩,.string ⟨#[124,124]⟩] 9):=by
 go_enter Tryz.func32,Tryz.ntmps32
 go_wp2_with fail
 go_ret
 exact ⟨rfl,rfl⟩
theorem runaries_ok (w:World):Calls Tryz.prog 40 #[] w fun e w'=>e = .returned (.slice (some ⟨w.heap.size,0,none⟩) 3 3) ∧ w' = w.alloc (.cells #[.string ⟨#[45]⟩,.string ⟨#[126]⟩,.string ⟨#[33]⟩] 9):=by
 go_enter Tryz.func40,Tryz.ntmps40
 go_wp2_with fail
 go_ret
 exact ⟨rfl,rfl⟩
theorem rin_bin (m:ByteArray) (w:World):Calls Tryz.prog 31 #[.slice (some ⟨w.heap.size,0,none⟩) 18 18,.string m] (w.alloc (.cells #[.string ⟨#[42]⟩,.string ⟨#[47]⟩,.string ⟨#[37]⟩,.string ⟨#[43]⟩,.string ⟨#[45]⟩,.string ⟨#[60,60]⟩,.string ⟨#[62,62]⟩,.string ⟨#[60]⟩,.string ⟨#[62]⟩,.string ⟨#[60,61]⟩,.string ⟨#[62,61]⟩,.string ⟨#[61,61]⟩,.string ⟨#[33,61]⟩,.string ⟨#[38]⟩,.string ⟨#[94]⟩,.string ⟨#[124]⟩,.string ⟨#[38,38]⟩,.string ⟨#[124,124]⟩] 9)) fun e w'=>e = .returned (.bool (Lib.containsS binMarks m)) ∧ (w.alloc (.cells #[.string ⟨#[42]⟩,.string ⟨#[47]⟩,.string ⟨#[37]⟩,.string ⟨#[43]⟩,.string ⟨#[45]⟩,.string ⟨#[60,60]⟩,.string ⟨#[62,62]⟩,.string ⟨#[60]⟩,.string ⟨#[62]⟩,.string ⟨#[60,61]⟩,.string ⟨#[62,61]⟩,.string ⟨#[61,61]⟩,.string ⟨#[33,61]⟩,.string ⟨#[38]⟩,.string ⟨#[94]⟩,.string ⟨#[124]⟩,.string ⟨#[38,38]⟩,.string ⟨#[124,124]⟩] 9)) = w':=
 baseIn_ok w.heap.size 18 binMarks m _ (by decide) (str_cells (heap_alloc_new _ _) rfl)
theorem rin_un (m:ByteArray) (w:World):Calls Tryz.prog 31 #[.slice (some ⟨w.heap.size,0,none⟩) 3 3,.string m] (w.alloc (.cells #[.string ⟨#[45]⟩,.string ⟨#[126]⟩,.string ⟨#[33]⟩] 9)) fun e w'=>e = .returned (.bool (Lib.containsS unMarks m)) ∧ (w.alloc (.cells #[.string ⟨#[45]⟩,.string ⟨#[126]⟩,.string ⟨#[33]⟩] 9)) = w':=
 baseIn_ok w.heap.size 3 unMarks m _ (by decide) (str_cells (heap_alloc_new _ _) rfl)
set_option maxRecDepth 100000 in
theorem rbinary_form (m:ByteArray) (a:Int) (x:ByteArray) (b:Int) (y:ByteArray) (w:World) (hm:Lib.containsS binMarks m = false) :
 Calls Tryz.prog 14 #[.string m,.int .i64 a,.string x,.int .i64 b,.string y] w fun e w'=>e = .returned (.tuple #[.int .i64 0,.string ⟨#[]⟩,.int .i64 2]) ∧ Below w.heap.size w w':=by
 have HBs:=Hd (rbinaries_ok w)
 have HIn:=Hd (rin_bin m w)
 have HI1:=Hd (fun w=>refIsInt_ok x w)
 have HI2:=Hd (fun w=>refIsInt_ok y w)
 have HB0:=Hd (ba1 w (.cells #[.string ⟨#[42]⟩,.string ⟨#[47]⟩,.string ⟨#[37]⟩,.string ⟨#[43]⟩,.string ⟨#[45]⟩,.string ⟨#[60,60]⟩,.string ⟨#[62,62]⟩,.string ⟨#[60]⟩,.string ⟨#[62]⟩,.string ⟨#[60,61]⟩,.string ⟨#[62,61]⟩,.string ⟨#[61,61]⟩,.string ⟨#[33,61]⟩,.string ⟨#[38]⟩,.string ⟨#[94]⟩,.string ⟨#[124]⟩,.string ⟨#[38,38]⟩,.string ⟨#[124,124]⟩] 9))
 rw [hm] at HIn
 clear hm
 generalize w.alloc (.cells #[.string ⟨#[42]⟩,.string ⟨#[47]⟩,.string ⟨#[37]⟩,.string ⟨#[43]⟩,.string ⟨#[45]⟩,.string ⟨#[60,60]⟩,.string ⟨#[62,62]⟩,.string ⟨#[60]⟩,.string ⟨#[62]⟩,.string ⟨#[60,61]⟩,.string ⟨#[62,61]⟩,.string ⟨#[61,61]⟩,.string ⟨#[33,61]⟩,.string ⟨#[38]⟩,.string ⟨#[94]⟩,.string ⟨#[124]⟩,.string ⟨#[38,38]⟩,.string ⟨#[124,124]⟩] 9) = w0 at *
 go_enter Tryz.func14,Tryz.ntmps14
 go_wp2_with (first | (go_at_call 32;(with_reducible refine HBs.out.mono ?_);rintro e w1 ⟨rfl,hw1⟩;subst w1) | (go_at_call 31;(with_reducible refine HIn.out.mono ?_);rintro e w1 ⟨rfl,hw1⟩;subst w1))
 go_ret3
 exact ⟨rfl,HB0.out⟩
set_option maxRecDepth 100000 in
theorem rbinary_shape1 (m:ByteArray) (a:Int) (x:ByteArray) (b:Int) (y:ByteArray) (w:World) (hm:Lib.containsS binMarks m = true) (hx:isIntS x = false) :
 Calls Tryz.prog 14 #[.string m,.int .i64 a,.string x,.int .i64 b,.string y] w fun e w'=>e = .returned (.tuple #[.int .i64 0,.string ⟨#[]⟩,.int .i64 5]) ∧ Below w.heap.size w w':=by
 have HBs:=Hd (rbinaries_ok w)
 have HIn:=Hd (rin_bin m w)
 have HI1:=Hd (fun w=>refIsInt_ok x w)
 have HI2:=Hd (fun w=>refIsInt_ok y w)
 have HB0:=Hd (ba1 w (.cells #[.string ⟨#[42]⟩,.string ⟨#[47]⟩,.string ⟨#[37]⟩,.string ⟨#[43]⟩,.string ⟨#[45]⟩,.string ⟨#[60,60]⟩,.string ⟨#[62,62]⟩,.string ⟨#[60]⟩,.string ⟨#[62]⟩,.string ⟨#[60,61]⟩,.string ⟨#[62,61]⟩,.string ⟨#[61,61]⟩,.string ⟨#[33,61]⟩,.string ⟨#[38]⟩,.string ⟨#[94]⟩,.string ⟨#[124]⟩,.string ⟨#[38,38]⟩,.string ⟨#[124,124]⟩] 9))
 rw [hm] at HIn
 rw [hx] at HI1
 clear hm hx
 generalize w.alloc (.cells #[.string ⟨#[42]⟩,.string ⟨#[47]⟩,.string ⟨#[37]⟩,.string ⟨#[43]⟩,.string ⟨#[45]⟩,.string ⟨#[60,60]⟩,.string ⟨#[62,62]⟩,.string ⟨#[60]⟩,.string ⟨#[62]⟩,.string ⟨#[60,61]⟩,.string ⟨#[62,61]⟩,.string ⟨#[61,61]⟩,.string ⟨#[33,61]⟩,.string ⟨#[38]⟩,.string ⟨#[94]⟩,.string ⟨#[124]⟩,.string ⟨#[38,38]⟩,.string ⟨#[124,124]⟩] 9) = w0 at *
 go_enter Tryz.func14,Tryz.ntmps14
 go_wp2_with (first | (go_at_call 32;(with_reducible refine HBs.out.mono ?_);rintro e w1 ⟨rfl,hw1⟩;subst w1) | (go_at_call 31;(with_reducible refine HIn.out.mono ?_);rintro e w1 ⟨rfl,hw1⟩;subst w1) | (go_at_call 33;(first | (with_reducible refine (HI1.out _).mono ?_) | (with_reducible refine (HI2.out _).mono ?_));rintro e wc ⟨rfl,hwc⟩;subst wc))
 go_ret3
 exact ⟨rfl,HB0.out⟩
set_option maxRecDepth 100000 in
theorem rbinary_shape2 (m:ByteArray) (a:Int) (x:ByteArray) (b:Int) (y:ByteArray) (w:World) (hm:Lib.containsS binMarks m = true) (hx:isIntS x = true) (hy:isIntS y = false) :
 Calls Tryz.prog 14 #[.string m,.int .i64 a,.string x,.int .i64 b,.string y] w fun e w'=>e = .returned (.tuple #[.int .i64 0,.string ⟨#[]⟩,.int .i64 5]) ∧ Below w.heap.size w w':=by
 have HBs:=Hd (rbinaries_ok w)
 have HIn:=Hd (rin_bin m w)
 have HI1:=Hd (fun w=>refIsInt_ok x w)
 have HI2:=Hd (fun w=>refIsInt_ok y w)
 have HB0:=Hd (ba1 w (.cells #[.string ⟨#[42]⟩,.string ⟨#[47]⟩,.string ⟨#[37]⟩,.string ⟨#[43]⟩,.string ⟨#[45]⟩,.string ⟨#[60,60]⟩,.string ⟨#[62,62]⟩,.string ⟨#[60]⟩,.string ⟨#[62]⟩,.string ⟨#[60,61]⟩,.string ⟨#[62,61]⟩,.string ⟨#[61,61]⟩,.string ⟨#[33,61]⟩,.string ⟨#[38]⟩,.string ⟨#[94]⟩,.string ⟨#[124]⟩,.string ⟨#[38,38]⟩,.string ⟨#[124,124]⟩] 9))
 rw [hm] at HIn
 rw [hx] at HI1
 rw [hy] at HI2
 clear hm hx hy
 generalize w.alloc (.cells #[.string ⟨#[42]⟩,.string ⟨#[47]⟩,.string ⟨#[37]⟩,.string ⟨#[43]⟩,.string ⟨#[45]⟩,.string ⟨#[60,60]⟩,.string ⟨#[62,62]⟩,.string ⟨#[60]⟩,.string ⟨#[62]⟩,.string ⟨#[60,61]⟩,.string ⟨#[62,61]⟩,.string ⟨#[61,61]⟩,.string ⟨#[33,61]⟩,.string ⟨#[38]⟩,.string ⟨#[94]⟩,.string ⟨#[124]⟩,.string ⟨#[38,38]⟩,.string ⟨#[124,124]⟩] 9) = w0 at *
 go_enter Tryz.func14,Tryz.ntmps14
 go_wp2_with (first | (go_at_call 32;(with_reducible refine HBs.out.mono ?_);rintro e w1 ⟨rfl,hw1⟩;subst w1) | (go_at_call 31;(with_reducible refine HIn.out.mono ?_);rintro e w1 ⟨rfl,hw1⟩;subst w1) | (go_at_call 33;(first | (with_reducible refine (HI1.out _).mono ?_) | (with_reducible refine (HI2.out _).mono ?_));rintro e wc ⟨rfl,hwc⟩;subst wc))
 go_ret3
 exact ⟨rfl,HB0.out⟩
set_option maxRecDepth 100000 in
theorem rbinary_shl (m:ByteArray) (a:Int) (x:ByteArray) (b:Int) (y:ByteArray) (w:World) (hm:Lib.containsS binMarks m = true) (hx:isIntS x = true) (hy:isIntS y = true) (hk:m = mShl) :
 Calls Tryz.prog 14 #[.string m,.int .i64 a,.string x,.int .i64 b,.string y] w fun e w'=>e = .returned (trip (binE m a x b y)) ∧ Below w.heap.size w w':=by
 have HBs:=Hd (rbinaries_ok w)
 have HIn:=Hd (rin_bin m w)
 have HI1:=Hd (fun w=>refIsInt_ok x w)
 have HI2:=Hd (fun w=>refIsInt_ok y w)
 have HB0:=Hd (ba1 w (.cells #[.string ⟨#[42]⟩,.string ⟨#[47]⟩,.string ⟨#[37]⟩,.string ⟨#[43]⟩,.string ⟨#[45]⟩,.string ⟨#[60,60]⟩,.string ⟨#[62,62]⟩,.string ⟨#[60]⟩,.string ⟨#[62]⟩,.string ⟨#[60,61]⟩,.string ⟨#[62,61]⟩,.string ⟨#[61,61]⟩,.string ⟨#[33,61]⟩,.string ⟨#[38]⟩,.string ⟨#[94]⟩,.string ⟨#[124]⟩,.string ⟨#[38,38]⟩,.string ⟨#[124,124]⟩] 9))
 have hX:=isIntS_int hx
 have hY:=isIntS_int hy
 have HA1:=Hd (fun w=>ras_ok a x w)
 have HA2:=Hd (fun w=>ras_ok b y w)
 have HC:=Hd (fun w=>(commonV_int hX hY) ▸ refCommon_ok x y w)
 have HP:=Hd (fun w=>(promoteV_int hX) ▸ refPromote_ok x w)
 have HRk:=Hd (fun w=>rreck_ok m hm x y (asI a x) (asI b y) w)
 have HMd:=Hd (fun w=>rmade_ok m x y hX hY w)
 have HX:=Hd (binE_is (a:=a) (b:=b) hm hX hY)
 have HTy:=Hd (fun v h=>binI_type (m:=m) (x:=x) (y:=y) (a:=asI a x) (b:=asI b y) (v:=v) h)
 rw [hm] at HIn
 rw [hx] at HI1
 rw [hy] at HI2
 have q0:(m.toList == [60,60]) = true:=by rw [hk];exact lit_eq rfl rfl
 have e1:meetT m x y = promI x:=by rw [hk];rfl
 have e2:∀ n,meetA m x y n = asI n (promI x):=fun n=>by rw [hk];rfl
 have e3:∀ n,meetB m x y n = n:=fun n=>by rw [hk];rfl
 rw [e1,e2,e3] at HRk
 clear e1 e2 e3 hk
 clear hm hx hy hX hY
 generalize asI a x = a1 at *
 generalize asI b y = b1 at *
 have HA3:=Hd (fun w=>ras_ok a1 (promI x) w)
 generalize asI a1 (promI x) = a2 at *
 generalize promI x = px at *
 generalize commI x y = cx at *
 generalize binI m x a1 y b1 = r at *
 generalize w.alloc (.cells #[.string ⟨#[42]⟩,.string ⟨#[47]⟩,.string ⟨#[37]⟩,.string ⟨#[43]⟩,.string ⟨#[45]⟩,.string ⟨#[60,60]⟩,.string ⟨#[62,62]⟩,.string ⟨#[60]⟩,.string ⟨#[62]⟩,.string ⟨#[60,61]⟩,.string ⟨#[62,61]⟩,.string ⟨#[61,61]⟩,.string ⟨#[33,61]⟩,.string ⟨#[38]⟩,.string ⟨#[94]⟩,.string ⟨#[124]⟩,.string ⟨#[38,38]⟩,.string ⟨#[124,124]⟩] 9) = w0 at *
 go_enter Tryz.func14,Tryz.ntmps14
 go_upto_region 15 with (first | (go_at_call 32;(with_reducible refine HBs.out.mono ?_);rintro e w1 ⟨rfl,hw1⟩;subst w1) | (go_at_call 31;(with_reducible refine HIn.out.mono ?_);rintro e w1 ⟨rfl,hw1⟩;subst w1) | (go_at_call 33;(first | (with_reducible refine (HI1.out _).mono ?_) | (with_reducible refine (HI2.out _).mono ?_));rintro e wc ⟨rfl,hwc⟩;subst wc) | (go_at_call 34;(first | (with_reducible refine (HA1.out _).mono ?_) | (with_reducible refine (HA2.out _).mono ?_) | (with_reducible refine (HA3.out _).mono ?_));rintro e wc ⟨rfl,hwc⟩;subst wc) | (go_at_call 35;(with_reducible refine (HC.out _).mono ?_);rintro e w2 ⟨rfl,hb2⟩;have HB2:=Ht HB0 hb2;clear hb2) | (go_at_call 36;(with_reducible refine (HP.out _).mono ?_);rintro e w3 ⟨rfl,hb3⟩;have HB3:=Ht HB2 hb3;clear hb3))
 rcases r with _ | ⟨rt,rn⟩
 ·have HRk2:=Hd (HRk.out w3)
  simp only [Option.map_none,reckV] at HRk2
  go_wp2_with (go_at_call 37;(with_reducible refine HRk2.out.mono ?_);rintro e w5 ⟨rfl,hb5⟩;have HB5:=Ht HB3 hb5;clear hb5)
  go_ret3
  exact ⟨by rw [HX.out];rfl,HB5.out⟩
 ·have HRk2:=Hd (HRk.out w3)
  simp only [Option.map_some,reckV] at HRk2
  have HT:=Hd (HTy.out (rt,rn) rfl)
  go_wp2_with (first | (go_at_call 37;(with_reducible refine HRk2.out.mono ?_);rintro e w5 ⟨rfl,hb5⟩;have HB5:=Ht HB3 hb5;clear hb5) | (go_at_call 38;(with_reducible refine (HMd.out _).mono ?_);rintro e w6 ⟨rfl,hb6⟩;have HB6:=Ht HB5 hb6;clear hb6))
  go_ret3
  exact ⟨by rw [HX.out,← HT.out];rfl,HB6.out⟩
set_option maxRecDepth 100000 in
theorem rbinary_shr (m:ByteArray) (a:Int) (x:ByteArray) (b:Int) (y:ByteArray) (w:World) (hm:Lib.containsS binMarks m = true) (hx:isIntS x = true) (hy:isIntS y = true) (hk:m = mShr) :
 Calls Tryz.prog 14 #[.string m,.int .i64 a,.string x,.int .i64 b,.string y] w fun e w'=>e = .returned (trip (binE m a x b y)) ∧ Below w.heap.size w w':=by
 have HBs:=Hd (rbinaries_ok w)
 have HIn:=Hd (rin_bin m w)
 have HI1:=Hd (fun w=>refIsInt_ok x w)
 have HI2:=Hd (fun w=>refIsInt_ok y w)
 have HB0:=Hd (ba1 w (.cells #[.string ⟨#[42]⟩,.string ⟨#[47]⟩,.string ⟨#[37]⟩,.string ⟨#[43]⟩,.string ⟨#[45]⟩,.string ⟨#[60,60]⟩,.string ⟨#[62,62]⟩,.string ⟨#[60]⟩,.string ⟨#[62]⟩,.string ⟨#[60,61]⟩,.string ⟨#[62,61]⟩,.string ⟨#[61,61]⟩,.string ⟨#[33,61]⟩,.string ⟨#[38]⟩,.string ⟨#[94]⟩,.string ⟨#[124]⟩,.string ⟨#[38,38]⟩,.string ⟨#[124,124]⟩] 9))
 have hX:=isIntS_int hx
 have hY:=isIntS_int hy
 have HA1:=Hd (fun w=>ras_ok a x w)
 have HA2:=Hd (fun w=>ras_ok b y w)
 have HC:=Hd (fun w=>(commonV_int hX hY) ▸ refCommon_ok x y w)
 have HP:=Hd (fun w=>(promoteV_int hX) ▸ refPromote_ok x w)
 have HRk:=Hd (fun w=>rreck_ok m hm x y (asI a x) (asI b y) w)
 have HMd:=Hd (fun w=>rmade_ok m x y hX hY w)
 have HX:=Hd (binE_is (a:=a) (b:=b) hm hX hY)
 have HTy:=Hd (fun v h=>binI_type (m:=m) (x:=x) (y:=y) (a:=asI a x) (b:=asI b y) (v:=v) h)
 rw [hm] at HIn
 rw [hx] at HI1
 rw [hy] at HI2
 have q0:(m.toList == [60,60]) = false:=by rw [hk];exact lit_eq rfl rfl
 have q1:(m.toList == [62,62]) = true:=by rw [hk];exact lit_eq rfl rfl
 have e1:meetT m x y = promI x:=by rw [hk];rfl
 have e2:∀ n,meetA m x y n = asI n (promI x):=fun n=>by rw [hk];rfl
 have e3:∀ n,meetB m x y n = n:=fun n=>by rw [hk];rfl
 rw [e1,e2,e3] at HRk
 clear e1 e2 e3 hk
 clear hm hx hy hX hY
 generalize asI a x = a1 at *
 generalize asI b y = b1 at *
 have HA3:=Hd (fun w=>ras_ok a1 (promI x) w)
 generalize asI a1 (promI x) = a2 at *
 generalize promI x = px at *
 generalize commI x y = cx at *
 generalize binI m x a1 y b1 = r at *
 generalize w.alloc (.cells #[.string ⟨#[42]⟩,.string ⟨#[47]⟩,.string ⟨#[37]⟩,.string ⟨#[43]⟩,.string ⟨#[45]⟩,.string ⟨#[60,60]⟩,.string ⟨#[62,62]⟩,.string ⟨#[60]⟩,.string ⟨#[62]⟩,.string ⟨#[60,61]⟩,.string ⟨#[62,61]⟩,.string ⟨#[61,61]⟩,.string ⟨#[33,61]⟩,.string ⟨#[38]⟩,.string ⟨#[94]⟩,.string ⟨#[124]⟩,.string ⟨#[38,38]⟩,.string ⟨#[124,124]⟩] 9) = w0 at *
 go_enter Tryz.func14,Tryz.ntmps14
 go_upto_region 15 with (first | (go_at_call 32;(with_reducible refine HBs.out.mono ?_);rintro e w1 ⟨rfl,hw1⟩;subst w1) | (go_at_call 31;(with_reducible refine HIn.out.mono ?_);rintro e w1 ⟨rfl,hw1⟩;subst w1) | (go_at_call 33;(first | (with_reducible refine (HI1.out _).mono ?_) | (with_reducible refine (HI2.out _).mono ?_));rintro e wc ⟨rfl,hwc⟩;subst wc) | (go_at_call 34;(first | (with_reducible refine (HA1.out _).mono ?_) | (with_reducible refine (HA2.out _).mono ?_) | (with_reducible refine (HA3.out _).mono ?_));rintro e wc ⟨rfl,hwc⟩;subst wc) | (go_at_call 35;(with_reducible refine (HC.out _).mono ?_);rintro e w2 ⟨rfl,hb2⟩;have HB2:=Ht HB0 hb2;clear hb2) | (go_at_call 36;(with_reducible refine (HP.out _).mono ?_);rintro e w3 ⟨rfl,hb3⟩;have HB3:=Ht HB2 hb3;clear hb3))
 rcases r with _ | ⟨rt,rn⟩
 ·have HRk2:=Hd (HRk.out w3)
  simp only [Option.map_none,reckV] at HRk2
  go_wp2_with (go_at_call 37;(with_reducible refine HRk2.out.mono ?_);rintro e w5 ⟨rfl,hb5⟩;have HB5:=Ht HB3 hb5;clear hb5)
  go_ret3
  exact ⟨by rw [HX.out];rfl,HB5.out⟩
 ·have HRk2:=Hd (HRk.out w3)
  simp only [Option.map_some,reckV] at HRk2
  have HT:=Hd (HTy.out (rt,rn) rfl)
  go_wp2_with (first | (go_at_call 37;(with_reducible refine HRk2.out.mono ?_);rintro e w5 ⟨rfl,hb5⟩;have HB5:=Ht HB3 hb5;clear hb5) | (go_at_call 38;(with_reducible refine (HMd.out _).mono ?_);rintro e w6 ⟨rfl,hb6⟩;have HB6:=Ht HB5 hb6;clear hb6))
  go_ret3
  exact ⟨by rw [HX.out,← HT.out];rfl,HB6.out⟩
set_option maxRecDepth 100000 in
theorem rbinary_both (m:ByteArray) (a:Int) (x:ByteArray) (b:Int) (y:ByteArray) (w:World) (hm:Lib.containsS binMarks m = true) (hx:isIntS x = true) (hy:isIntS y = true) (hk:m = mAnd2) :
 Calls Tryz.prog 14 #[.string m,.int .i64 a,.string x,.int .i64 b,.string y] w fun e w'=>e = .returned (trip (binE m a x b y)) ∧ Below w.heap.size w w':=by
 have HBs:=Hd (rbinaries_ok w)
 have HIn:=Hd (rin_bin m w)
 have HI1:=Hd (fun w=>refIsInt_ok x w)
 have HI2:=Hd (fun w=>refIsInt_ok y w)
 have HB0:=Hd (ba1 w (.cells #[.string ⟨#[42]⟩,.string ⟨#[47]⟩,.string ⟨#[37]⟩,.string ⟨#[43]⟩,.string ⟨#[45]⟩,.string ⟨#[60,60]⟩,.string ⟨#[62,62]⟩,.string ⟨#[60]⟩,.string ⟨#[62]⟩,.string ⟨#[60,61]⟩,.string ⟨#[62,61]⟩,.string ⟨#[61,61]⟩,.string ⟨#[33,61]⟩,.string ⟨#[38]⟩,.string ⟨#[94]⟩,.string ⟨#[124]⟩,.string ⟨#[38,38]⟩,.string ⟨#[124,124]⟩] 9))
 have hX:=isIntS_int hx
 have hY:=isIntS_int hy
 have HA1:=Hd (fun w=>ras_ok a x w)
 have HA2:=Hd (fun w=>ras_ok b y w)
 have HC:=Hd (fun w=>(commonV_int hX hY) ▸ refCommon_ok x y w)
 have HP:=Hd (fun w=>(promoteV_int hX) ▸ refPromote_ok x w)
 have HRk:=Hd (fun w=>rreck_ok m hm x y (asI a x) (asI b y) w)
 have HMd:=Hd (fun w=>rmade_ok m x y hX hY w)
 have HX:=Hd (binE_is (a:=a) (b:=b) hm hX hY)
 have HTy:=Hd (fun v h=>binI_type (m:=m) (x:=x) (y:=y) (a:=asI a x) (b:=asI b y) (v:=v) h)
 rw [hm] at HIn
 rw [hx] at HI1
 rw [hy] at HI2
 have q0:(m.toList == [60,60]) = false:=by rw [hk];exact lit_eq rfl rfl
 have q1:(m.toList == [62,62]) = false:=by rw [hk];exact lit_eq rfl rfl
 have q2:(m.toList == [38,38]) = true:=by rw [hk];exact lit_eq rfl rfl
 have e1:meetT m x y = commI x y:=by rw [hk];rfl
 have e2:∀ n,meetA m x y n = n:=fun n=>by rw [hk];rfl
 have e3:∀ n,meetB m x y n = n:=fun n=>by rw [hk];rfl
 rw [e1,e2,e3] at HRk
 clear e1 e2 e3 hk
 clear hm hx hy hX hY
 generalize asI a x = a1 at *
 generalize asI b y = b1 at *
 generalize commI x y = cx at *
 generalize binI m x a1 y b1 = r at *
 generalize w.alloc (.cells #[.string ⟨#[42]⟩,.string ⟨#[47]⟩,.string ⟨#[37]⟩,.string ⟨#[43]⟩,.string ⟨#[45]⟩,.string ⟨#[60,60]⟩,.string ⟨#[62,62]⟩,.string ⟨#[60]⟩,.string ⟨#[62]⟩,.string ⟨#[60,61]⟩,.string ⟨#[62,61]⟩,.string ⟨#[61,61]⟩,.string ⟨#[33,61]⟩,.string ⟨#[38]⟩,.string ⟨#[94]⟩,.string ⟨#[124]⟩,.string ⟨#[38,38]⟩,.string ⟨#[124,124]⟩] 9) = w0 at *
 go_enter Tryz.func14,Tryz.ntmps14
 go_upto_region 15 with (first | (go_at_call 32;(with_reducible refine HBs.out.mono ?_);rintro e w1 ⟨rfl,hw1⟩;subst w1) | (go_at_call 31;(with_reducible refine HIn.out.mono ?_);rintro e w1 ⟨rfl,hw1⟩;subst w1) | (go_at_call 33;(first | (with_reducible refine (HI1.out _).mono ?_) | (with_reducible refine (HI2.out _).mono ?_));rintro e wc ⟨rfl,hwc⟩;subst wc) | (go_at_call 34;(first | (with_reducible refine (HA1.out _).mono ?_) | (with_reducible refine (HA2.out _).mono ?_));rintro e wc ⟨rfl,hwc⟩;subst wc) | (go_at_call 35;(with_reducible refine (HC.out _).mono ?_);rintro e w2 ⟨rfl,hb2⟩;have HB2:=Ht HB0 hb2;clear hb2))
 rcases r with _ | ⟨rt,rn⟩
 ·have HRk2:=Hd (HRk.out w2)
  simp only [Option.map_none,reckV] at HRk2
  go_wp2_with (go_at_call 37;(with_reducible refine HRk2.out.mono ?_);rintro e w5 ⟨rfl,hb5⟩;have HB5:=Ht HB2 hb5;clear hb5)
  go_ret3
  exact ⟨by rw [HX.out];rfl,HB5.out⟩
 ·have HRk2:=Hd (HRk.out w2)
  simp only [Option.map_some,reckV] at HRk2
  have HT:=Hd (HTy.out (rt,rn) rfl)
  go_wp2_with (first | (go_at_call 37;(with_reducible refine HRk2.out.mono ?_);rintro e w5 ⟨rfl,hb5⟩;have HB5:=Ht HB2 hb5;clear hb5) | (go_at_call 38;(with_reducible refine (HMd.out _).mono ?_);rintro e w6 ⟨rfl,hb6⟩;have HB6:=Ht HB5 hb6;clear hb6))
  go_ret3
  exact ⟨by rw [HX.out,← HT.out];rfl,HB6.out⟩
set_option maxRecDepth 100000 in
theorem rbinary_either (m:ByteArray) (a:Int) (x:ByteArray) (b:Int) (y:ByteArray) (w:World) (hm:Lib.containsS binMarks m = true) (hx:isIntS x = true) (hy:isIntS y = true) (hk:m = mOr2) :
 Calls Tryz.prog 14 #[.string m,.int .i64 a,.string x,.int .i64 b,.string y] w fun e w'=>e = .returned (trip (binE m a x b y)) ∧ Below w.heap.size w w':=by
 have HBs:=Hd (rbinaries_ok w)
 have HIn:=Hd (rin_bin m w)
 have HI1:=Hd (fun w=>refIsInt_ok x w)
 have HI2:=Hd (fun w=>refIsInt_ok y w)
 have HB0:=Hd (ba1 w (.cells #[.string ⟨#[42]⟩,.string ⟨#[47]⟩,.string ⟨#[37]⟩,.string ⟨#[43]⟩,.string ⟨#[45]⟩,.string ⟨#[60,60]⟩,.string ⟨#[62,62]⟩,.string ⟨#[60]⟩,.string ⟨#[62]⟩,.string ⟨#[60,61]⟩,.string ⟨#[62,61]⟩,.string ⟨#[61,61]⟩,.string ⟨#[33,61]⟩,.string ⟨#[38]⟩,.string ⟨#[94]⟩,.string ⟨#[124]⟩,.string ⟨#[38,38]⟩,.string ⟨#[124,124]⟩] 9))
 have hX:=isIntS_int hx
 have hY:=isIntS_int hy
 have HA1:=Hd (fun w=>ras_ok a x w)
 have HA2:=Hd (fun w=>ras_ok b y w)
 have HC:=Hd (fun w=>(commonV_int hX hY) ▸ refCommon_ok x y w)
 have HP:=Hd (fun w=>(promoteV_int hX) ▸ refPromote_ok x w)
 have HRk:=Hd (fun w=>rreck_ok m hm x y (asI a x) (asI b y) w)
 have HMd:=Hd (fun w=>rmade_ok m x y hX hY w)
 have HX:=Hd (binE_is (a:=a) (b:=b) hm hX hY)
 have HTy:=Hd (fun v h=>binI_type (m:=m) (x:=x) (y:=y) (a:=asI a x) (b:=asI b y) (v:=v) h)
 rw [hm] at HIn
 rw [hx] at HI1
 rw [hy] at HI2
 have q0:(m.toList == [60,60]) = false:=by rw [hk];exact lit_eq rfl rfl
 have q1:(m.toList == [62,62]) = false:=by rw [hk];exact lit_eq rfl rfl
 have q2:(m.toList == [38,38]) = false:=by rw [hk];exact lit_eq rfl rfl
 have q3:(m.toList == [124,124]) = true:=by rw [hk];exact lit_eq rfl rfl
 have e1:meetT m x y = commI x y:=by rw [hk];rfl
 have e2:∀ n,meetA m x y n = n:=fun n=>by rw [hk];rfl
 have e3:∀ n,meetB m x y n = n:=fun n=>by rw [hk];rfl
 rw [e1,e2,e3] at HRk
 clear e1 e2 e3 hk
 clear hm hx hy hX hY
 generalize asI a x = a1 at *
 generalize asI b y = b1 at *
 generalize commI x y = cx at *
 generalize binI m x a1 y b1 = r at *
 generalize w.alloc (.cells #[.string ⟨#[42]⟩,.string ⟨#[47]⟩,.string ⟨#[37]⟩,.string ⟨#[43]⟩,.string ⟨#[45]⟩,.string ⟨#[60,60]⟩,.string ⟨#[62,62]⟩,.string ⟨#[60]⟩,.string ⟨#[62]⟩,.string ⟨#[60,61]⟩,.string ⟨#[62,61]⟩,.string ⟨#[61,61]⟩,.string ⟨#[33,61]⟩,.string ⟨#[38]⟩,.string ⟨#[94]⟩,.string ⟨#[124]⟩,.string ⟨#[38,38]⟩,.string ⟨#[124,124]⟩] 9) = w0 at *
 go_enter Tryz.func14,Tryz.ntmps14
 go_upto_region 15 with (first | (go_at_call 32;(with_reducible refine HBs.out.mono ?_);rintro e w1 ⟨rfl,hw1⟩;subst w1) | (go_at_call 31;(with_reducible refine HIn.out.mono ?_);rintro e w1 ⟨rfl,hw1⟩;subst w1) | (go_at_call 33;(first | (with_reducible refine (HI1.out _).mono ?_) | (with_reducible refine (HI2.out _).mono ?_));rintro e wc ⟨rfl,hwc⟩;subst wc) | (go_at_call 34;(first | (with_reducible refine (HA1.out _).mono ?_) | (with_reducible refine (HA2.out _).mono ?_));rintro e wc ⟨rfl,hwc⟩;subst wc) | (go_at_call 35;(with_reducible refine (HC.out _).mono ?_);rintro e w2 ⟨rfl,hb2⟩;have HB2:=Ht HB0 hb2;clear hb2))
 rcases r with _ | ⟨rt,rn⟩
 ·have HRk2:=Hd (HRk.out w2)
  simp only [Option.map_none,reckV] at HRk2
  go_wp2_with (go_at_call 37;(with_reducible refine HRk2.out.mono ?_);rintro e w5 ⟨rfl,hb5⟩;have HB5:=Ht HB2 hb5;clear hb5)
  go_ret3
  exact ⟨by rw [HX.out];rfl,HB5.out⟩
 ·have HRk2:=Hd (HRk.out w2)
  simp only [Option.map_some,reckV] at HRk2
  have HT:=Hd (HTy.out (rt,rn) rfl)
  go_wp2_with (first | (go_at_call 37;(with_reducible refine HRk2.out.mono ?_);rintro e w5 ⟨rfl,hb5⟩;have HB5:=Ht HB2 hb5;clear hb5) | (go_at_call 38;(with_reducible refine (HMd.out _).mono ?_);rintro e w6 ⟨rfl,hb6⟩;have HB6:=Ht HB5 hb6;clear hb6))
  go_ret3
  exact ⟨by rw [HX.out,← HT.out];rfl,HB6.out⟩
set_option maxRecDepth 100000 in
theorem rbinary_other (m:ByteArray) (a:Int) (x:ByteArray) (b:Int) (y:ByteArray) (w:World) (hm:Lib.containsS binMarks m = true) (hx:isIntS x = true) (hy:isIntS y = true) (k0:m ≠ mShl) (k1:m ≠ mShr) (k2:m ≠ mAnd2) (k3:m ≠ mOr2) :
 Calls Tryz.prog 14 #[.string m,.int .i64 a,.string x,.int .i64 b,.string y] w fun e w'=>e = .returned (trip (binE m a x b y)) ∧ Below w.heap.size w w':=by
 have HBs:=Hd (rbinaries_ok w)
 have HIn:=Hd (rin_bin m w)
 have HI1:=Hd (fun w=>refIsInt_ok x w)
 have HI2:=Hd (fun w=>refIsInt_ok y w)
 have HB0:=Hd (ba1 w (.cells #[.string ⟨#[42]⟩,.string ⟨#[47]⟩,.string ⟨#[37]⟩,.string ⟨#[43]⟩,.string ⟨#[45]⟩,.string ⟨#[60,60]⟩,.string ⟨#[62,62]⟩,.string ⟨#[60]⟩,.string ⟨#[62]⟩,.string ⟨#[60,61]⟩,.string ⟨#[62,61]⟩,.string ⟨#[61,61]⟩,.string ⟨#[33,61]⟩,.string ⟨#[38]⟩,.string ⟨#[94]⟩,.string ⟨#[124]⟩,.string ⟨#[38,38]⟩,.string ⟨#[124,124]⟩] 9))
 have hX:=isIntS_int hx
 have hY:=isIntS_int hy
 have HA1:=Hd (fun w=>ras_ok a x w)
 have HA2:=Hd (fun w=>ras_ok b y w)
 have HC:=Hd (fun w=>(commonV_int hX hY) ▸ refCommon_ok x y w)
 have HP:=Hd (fun w=>(promoteV_int hX) ▸ refPromote_ok x w)
 have HRk:=Hd (fun w=>rreck_ok m hm x y (asI a x) (asI b y) w)
 have HMd:=Hd (fun w=>rmade_ok m x y hX hY w)
 have HX:=Hd (binE_is (a:=a) (b:=b) hm hX hY)
 have HTy:=Hd (fun v h=>binI_type (m:=m) (x:=x) (y:=y) (a:=asI a x) (b:=asI b y) (v:=v) h)
 rw [hm] at HIn
 rw [hx] at HI1
 rw [hy] at HI2
 have q0:(m.toList == [60,60]) = false:=lit_ne (fun e=>k0 (bytes_of e))
 have q1:(m.toList == [62,62]) = false:=lit_ne (fun e=>k1 (bytes_of e))
 have q2:(m.toList == [38,38]) = false:=lit_ne (fun e=>k2 (bytes_of e))
 have q3:(m.toList == [124,124]) = false:=lit_ne (fun e=>k3 (bytes_of e))
 have e1:meetT m x y = commI x y:=by unfold meetT;rw [if_neg (by simp [k0,k1])]
 have e2:∀ n,meetA m x y n = asI n (commI x y):=fun n=>by unfold meetA;rw [if_neg (by simp [k2,k3]),e1]
 have e3:∀ n,meetB m x y n = asI n (commI x y):=fun n=>by unfold meetB;rw [if_neg (by simp [k0,k1,k2,k3])]
 rw [e1,e2,e3] at HRk
 clear e1 e2 e3 k0 k1 k2 k3
 clear hm hx hy hX hY
 generalize asI a x = a1 at *
 generalize asI b y = b1 at *
 have HA3:=Hd (fun w=>ras_ok a1 (commI x y) w)
 have HA4:=Hd (fun w=>ras_ok b1 (commI x y) w)
 generalize asI a1 (commI x y) = a2 at *
 generalize asI b1 (commI x y) = b2 at *
 generalize commI x y = cx at *
 generalize binI m x a1 y b1 = r at *
 generalize w.alloc (.cells #[.string ⟨#[42]⟩,.string ⟨#[47]⟩,.string ⟨#[37]⟩,.string ⟨#[43]⟩,.string ⟨#[45]⟩,.string ⟨#[60,60]⟩,.string ⟨#[62,62]⟩,.string ⟨#[60]⟩,.string ⟨#[62]⟩,.string ⟨#[60,61]⟩,.string ⟨#[62,61]⟩,.string ⟨#[61,61]⟩,.string ⟨#[33,61]⟩,.string ⟨#[38]⟩,.string ⟨#[94]⟩,.string ⟨#[124]⟩,.string ⟨#[38,38]⟩,.string ⟨#[124,124]⟩] 9) = w0 at *
 go_enter Tryz.func14,Tryz.ntmps14
 go_upto_region 15 with (first | (go_at_call 32;(with_reducible refine HBs.out.mono ?_);rintro e w1 ⟨rfl,hw1⟩;subst w1) | (go_at_call 31;(with_reducible refine HIn.out.mono ?_);rintro e w1 ⟨rfl,hw1⟩;subst w1) | (go_at_call 33;(first | (with_reducible refine (HI1.out _).mono ?_) | (with_reducible refine (HI2.out _).mono ?_));rintro e wc ⟨rfl,hwc⟩;subst wc) | (go_at_call 34;(first | (with_reducible refine (HA1.out _).mono ?_) | (with_reducible refine (HA2.out _).mono ?_) | (with_reducible refine (HA3.out _).mono ?_) | (with_reducible refine (HA4.out _).mono ?_));rintro e wc ⟨rfl,hwc⟩;subst wc) | (go_at_call 35;(with_reducible refine (HC.out _).mono ?_);rintro e w2 ⟨rfl,hb2⟩;have HB2:=Ht HB0 hb2;clear hb2))
 rcases r with _ | ⟨rt,rn⟩
 ·have HRk2:=Hd (HRk.out w2)
  simp only [Option.map_none,reckV] at HRk2
  go_wp2_with (go_at_call 37;(with_reducible refine HRk2.out.mono ?_);rintro e w5 ⟨rfl,hb5⟩;have HB5:=Ht HB2 hb5;clear hb5)
  go_ret3
  exact ⟨by rw [HX.out];rfl,HB5.out⟩
 ·have HRk2:=Hd (HRk.out w2)
  simp only [Option.map_some,reckV] at HRk2
  have HT:=Hd (HTy.out (rt,rn) rfl)
  go_wp2_with (first | (go_at_call 37;(with_reducible refine HRk2.out.mono ?_);rintro e w5 ⟨rfl,hb5⟩;have HB5:=Ht HB2 hb5;clear hb5) | (go_at_call 38;(with_reducible refine (HMd.out _).mono ?_);rintro e w6 ⟨rfl,hb6⟩;have HB6:=Ht HB5 hb6;clear hb6))
  go_ret3
  exact ⟨by rw [HX.out,← HT.out];rfl,HB6.out⟩
theorem rbinary_ok (m:ByteArray) (a:Int) (x:ByteArray) (b:Int) (y:ByteArray) (w:World) :
 Calls Tryz.prog 14 #[.string m,.int .i64 a,.string x,.int .i64 b,.string y] w fun e w'=>e = .returned (trip (binE m a x b y)) ∧ Below w.heap.size w w':=by
 rcases hm:Lib.containsS binMarks m with _ | _
 ·rw [show binE m a x b y = (0,⟨#[]⟩,2) from by unfold binE;rw [if_pos hm]]
  exact rbinary_form m a x b y w hm
 rcases hx:isIntS x with _ | _
 ·rw [show binE m a x b y = (0,⟨#[]⟩,5) from by unfold binE;rw [if_neg (by rw [hm];simp),if_pos (.inl hx)]]
  exact rbinary_shape1 m a x b y w hm hx
 rcases hy:isIntS y with _ | _
 ·rw [show binE m a x b y = (0,⟨#[]⟩,5) from by unfold binE;rw [if_neg (by rw [hm];simp),if_pos (.inr hy)]]
  exact rbinary_shape2 m a x b y w hm hx hy
 by_cases k0:m = mShl
 ·exact rbinary_shl m a x b y w hm hx hy k0
 by_cases k1:m = mShr
 ·exact rbinary_shr m a x b y w hm hx hy k1
 by_cases k2:m = mAnd2
 ·exact rbinary_both m a x b y w hm hx hy k2
 by_cases k3:m = mOr2
 ·exact rbinary_either m a x b y w hm hx hy k3
 exact rbinary_other m a x b y w hm hx hy k0 k1 k2 k3
set_option maxRecDepth 100000 in
theorem runary_form (m:ByteArray) (a:Int) (x:ByteArray) (w:World) (hm:Lib.containsS unMarks m = false) :
 Calls Tryz.prog 16 #[.string m,.int .i64 a,.string x] w fun e w'=>e = .returned (.tuple #[.int .i64 0,.string ⟨#[]⟩,.int .i64 2]) ∧ Below w.heap.size w w':=by
 have HBs:=Hd (runaries_ok w)
 have HIn:=Hd (rin_un m w)
 have HI1:=Hd (fun w=>refIsInt_ok x w)
 have HB0:=Hd (ba1 w (.cells #[.string ⟨#[45]⟩,.string ⟨#[126]⟩,.string ⟨#[33]⟩] 9))
 rw [hm] at HIn
 clear hm HI1
 generalize w.alloc (.cells #[.string ⟨#[45]⟩,.string ⟨#[126]⟩,.string ⟨#[33]⟩] 9) = w0 at *
 go_enter Tryz.func16,Tryz.ntmps16
 go_wp2_with (first | (go_at_call 40;(with_reducible refine HBs.out.mono ?_);rintro e w1 ⟨rfl,hw1⟩;subst w1) | (go_at_call 31;(with_reducible refine HIn.out.mono ?_);rintro e w1 ⟨rfl,hw1⟩;subst w1))
 go_ret3
 exact ⟨rfl,HB0.out⟩
set_option maxRecDepth 100000 in
theorem runary_shape (m:ByteArray) (a:Int) (x:ByteArray) (w:World) (hm:Lib.containsS unMarks m = true) (hx:isIntS x = false) :
 Calls Tryz.prog 16 #[.string m,.int .i64 a,.string x] w fun e w'=>e = .returned (.tuple #[.int .i64 0,.string ⟨#[]⟩,.int .i64 5]) ∧ Below w.heap.size w w':=by
 have HBs:=Hd (runaries_ok w)
 have HIn:=Hd (rin_un m w)
 have HI1:=Hd (fun w=>refIsInt_ok x w)
 have HB0:=Hd (ba1 w (.cells #[.string ⟨#[45]⟩,.string ⟨#[126]⟩,.string ⟨#[33]⟩] 9))
 rw [hm] at HIn
 rw [hx] at HI1
 clear hm hx
 generalize w.alloc (.cells #[.string ⟨#[45]⟩,.string ⟨#[126]⟩,.string ⟨#[33]⟩] 9) = w0 at *
 go_enter Tryz.func16,Tryz.ntmps16
 go_wp2_with (first | (go_at_call 40;(with_reducible refine HBs.out.mono ?_);rintro e w1 ⟨rfl,hw1⟩;subst w1) | (go_at_call 31;(with_reducible refine HIn.out.mono ?_);rintro e w1 ⟨rfl,hw1⟩;subst w1) | (go_at_call 33;(with_reducible refine (HI1.out _).mono ?_);rintro e wc ⟨rfl,hwc⟩;subst wc))
 go_ret3
 exact ⟨rfl,HB0.out⟩
set_option maxRecDepth 100000 in
theorem runary_neg (m:ByteArray) (a:Int) (x:ByteArray) (w:World) (hm:Lib.containsS unMarks m = true) (hx:isIntS x = true) (hk:m = mSub) :
 Calls Tryz.prog 16 #[.string m,.int .i64 a,.string x] w fun e w'=>e = .returned (trip (unE m a x)) ∧ Below w.heap.size w w':=by
 have HBs:=Hd (runaries_ok w)
 have HIn:=Hd (rin_un m w)
 have HI1:=Hd (fun w=>refIsInt_ok x w)
 have HB0:=Hd (ba1 w (.cells #[.string ⟨#[45]⟩,.string ⟨#[126]⟩,.string ⟨#[33]⟩] 9))
 have hX:=isIntS_int hx
 have HA1:=Hd (fun w=>ras_ok a x w)
 have HP:=Hd (fun w=>(promoteV_int hX) ▸ refPromote_ok x w)
 have hr:=asI_range a x
 have hU:unE m a x = match unI m x (asI a x) with | none=>(0,⟨#[]⟩,0) | some v=>(v.2,v.1,0):=by
  unfold unE
  rw [if_neg (by rw [hm];simp),if_neg (by rw [hx];simp)]
  rfl
 have hU2:unE m a x = (asI (-(asI a x)) (promI x),promI x,0):=by rw [hU,hk];show (asI (-(asI (asI a x) (promI x))) (promI x),promI x,(0:Int)) = _;rw [asI_neg _ (promI_ui x)]
 have HU:=Hd hU2
 rw [hm] at HIn
 rw [hx] at HI1
 have q0:(m.toList == [45]) = true:=by rw [hk];exact lit_eq rfl rfl
 have q1:(m.toList == [126]) = false:=by rw [hk];exact lit_eq rfl rfl
 clear hm hx hX hk hU hU2
 generalize asI a x = a1 at *
 generalize promI x = px at *
 have HA3:=Hd (fun w=>ras_ok (-a1) px w)
 have e1:IntKind.i64.wrap (-a1) = -a1:=by rw [IntKind.wrap_i64];omega
 generalize w.alloc (.cells #[.string ⟨#[45]⟩,.string ⟨#[126]⟩,.string ⟨#[33]⟩] 9) = w0 at *
 go_enter Tryz.func16,Tryz.ntmps16
 go_wp2_with (first | (go_at_call 40;(with_reducible refine HBs.out.mono ?_);rintro e w1 ⟨rfl,hw1⟩;subst w1) | (go_at_call 31;(with_reducible refine HIn.out.mono ?_);rintro e w1 ⟨rfl,hw1⟩;subst w1) | (go_at_call 33;(with_reducible refine (HI1.out _).mono ?_);rintro e wc ⟨rfl,hwc⟩;subst wc) | (go_at_call 34;(first | (with_reducible refine (HA1.out _).mono ?_) | (with_reducible refine (HA3.out _).mono ?_));rintro e wc ⟨rfl,hwc⟩;subst wc) | (go_at_call 36;(with_reducible refine (HP.out _).mono ?_);rintro e w3 ⟨rfl,hb3⟩;have HB3:=Ht HB0 hb3;clear hb3))
 go_ret3
 exact ⟨by rw [HU.out];rfl,HB3.out⟩
set_option maxRecDepth 100000 in
theorem runary_cpl (m:ByteArray) (a:Int) (x:ByteArray) (w:World) (hm:Lib.containsS unMarks m = true) (hx:isIntS x = true) (hk:m = mCpl) :
 Calls Tryz.prog 16 #[.string m,.int .i64 a,.string x] w fun e w'=>e = .returned (trip (unE m a x)) ∧ Below w.heap.size w w':=by
 have HBs:=Hd (runaries_ok w)
 have HIn:=Hd (rin_un m w)
 have HI1:=Hd (fun w=>refIsInt_ok x w)
 have HB0:=Hd (ba1 w (.cells #[.string ⟨#[45]⟩,.string ⟨#[126]⟩,.string ⟨#[33]⟩] 9))
 have hX:=isIntS_int hx
 have HA1:=Hd (fun w=>ras_ok a x w)
 have HP:=Hd (fun w=>(promoteV_int hX) ▸ refPromote_ok x w)
 have hr:=asI_range a x
 have hU:unE m a x = match unI m x (asI a x) with | none=>(0,⟨#[]⟩,0) | some v=>(v.2,v.1,0):=by
  unfold unE
  rw [if_neg (by rw [hm];simp),if_neg (by rw [hx];simp)]
  rfl
 have hU2:unE m a x = (asI (-(asI a x) - 1) (promI x),promI x,0):=by rw [hU,hk];show (asI (-(asI (asI a x) (promI x)) - 1) (promI x),promI x,(0:Int)) = _;rw [asI_cpl _ (promI_ui x)]
 have HU:=Hd hU2
 rw [hm] at HIn
 rw [hx] at HI1
 have q0:(m.toList == [45]) = false:=by rw [hk];exact lit_eq rfl rfl
 have q1:(m.toList == [126]) = true:=by rw [hk];exact lit_eq rfl rfl
 clear hm hx hX hk hU hU2
 generalize asI a x = a1 at *
 generalize promI x = px at *
 have HA3:=Hd (fun w=>ras_ok (-a1 - 1) px w)
 have e1:IntKind.i64.wrap (-a1) = -a1:=by rw [IntKind.wrap_i64];omega
 have e2:IntKind.i64.wrap (-a1 - 1) = -a1 - 1:=by rw [IntKind.wrap_i64];omega
 generalize w.alloc (.cells #[.string ⟨#[45]⟩,.string ⟨#[126]⟩,.string ⟨#[33]⟩] 9) = w0 at *
 go_enter Tryz.func16,Tryz.ntmps16
 go_wp2_with (first | (go_at_call 40;(with_reducible refine HBs.out.mono ?_);rintro e w1 ⟨rfl,hw1⟩;subst w1) | (go_at_call 31;(with_reducible refine HIn.out.mono ?_);rintro e w1 ⟨rfl,hw1⟩;subst w1) | (go_at_call 33;(with_reducible refine (HI1.out _).mono ?_);rintro e wc ⟨rfl,hwc⟩;subst wc) | (go_at_call 34;(first | (with_reducible refine (HA1.out _).mono ?_) | (with_reducible refine (HA3.out _).mono ?_));rintro e wc ⟨rfl,hwc⟩;subst wc) | (go_at_call 36;(with_reducible refine (HP.out _).mono ?_);rintro e w3 ⟨rfl,hb3⟩;have HB3:=Ht HB0 hb3;clear hb3))
 go_ret3
 exact ⟨by rw [HU.out];rfl,HB3.out⟩
set_option maxRecDepth 100000 in
theorem runary_not (m:ByteArray) (a:Int) (x:ByteArray) (w:World) (hm:Lib.containsS unMarks m = true) (hx:isIntS x = true) (hk:m = mNot) :
 Calls Tryz.prog 16 #[.string m,.int .i64 a,.string x] w fun e w'=>e = .returned (trip (unE m a x)) ∧ Below w.heap.size w w':=by
 have HBs:=Hd (runaries_ok w)
 have HIn:=Hd (rin_un m w)
 have HI1:=Hd (fun w=>refIsInt_ok x w)
 have HB0:=Hd (ba1 w (.cells #[.string ⟨#[45]⟩,.string ⟨#[126]⟩,.string ⟨#[33]⟩] 9))
 have hX:=isIntS_int hx
 have HA1:=Hd (fun w=>ras_ok a x w)
 have HP:=Hd (fun w=>(promoteV_int hX) ▸ refPromote_ok x w)
 have hr:=asI_range a x
 have hU:unE m a x = match unI m x (asI a x) with | none=>(0,⟨#[]⟩,0) | some v=>(v.2,v.1,0):=by
  unfold unE
  rw [if_neg (by rw [hm];simp),if_neg (by rw [hx];simp)]
  rfl
 have hU2:unE m a x = (truthI (asI a x == 0),iText12,0):=by rw [hU,hk,beq_dec];rfl
 have HU:=Hd hU2
 rw [hm] at HIn
 rw [hx] at HI1
 have q0:(m.toList == [45]) = false:=by rw [hk];exact lit_eq rfl rfl
 have q1:(m.toList == [126]) = false:=by rw [hk];exact lit_eq rfl rfl
 clear hm hx hX hk hU hU2
 generalize asI a x = a1 at *
 generalize promI x = px at *
 have HT:=Hd (fun w=>rtruth_ok (a1 == 0) w)
 generalize w.alloc (.cells #[.string ⟨#[45]⟩,.string ⟨#[126]⟩,.string ⟨#[33]⟩] 9) = w0 at *
 go_enter Tryz.func16,Tryz.ntmps16
 go_wp2_with (first | (go_at_call 40;(with_reducible refine HBs.out.mono ?_);rintro e w1 ⟨rfl,hw1⟩;subst w1) | (go_at_call 31;(with_reducible refine HIn.out.mono ?_);rintro e w1 ⟨rfl,hw1⟩;subst w1) | (go_at_call 33;(with_reducible refine (HI1.out _).mono ?_);rintro e wc ⟨rfl,hwc⟩;subst wc) | (go_at_call 34;(first | (with_reducible refine (HA1.out _).mono ?_));rintro e wc ⟨rfl,hwc⟩;subst wc) | (go_at_call 36;(with_reducible refine (HP.out _).mono ?_);rintro e w3 ⟨rfl,hb3⟩;have HB3:=Ht HB0 hb3;clear hb3) | (go_at_call 41;(with_reducible refine (HT.out _).mono ?_);rintro e wc ⟨rfl,hwc⟩;subst wc))
 go_ret3
 exact ⟨by rw [HU.out];rfl,HB3.out⟩
theorem runary_ok (m:ByteArray) (a:Int) (x:ByteArray) (w:World) :
 Calls Tryz.prog 16 #[.string m,.int .i64 a,.string x] w fun e w'=>e = .returned (trip (unE m a x)) ∧ Below w.heap.size w w':=by
 rcases hm:Lib.containsS unMarks m with _ | _
 ·rw [show unE m a x = (0,⟨#[]⟩,2) from by unfold unE;rw [if_pos hm]]
  exact runary_form m a x w hm
 rcases hx:isIntS x with _ | _
 ·rw [show unE m a x = (0,⟨#[]⟩,5) from by unfold unE;rw [if_neg (by rw [hm];simp),if_pos hx]]
  exact runary_shape m a x w hm hx
 rcases mem_un hm with h | h | h
 ·exact runary_neg m a x w hm hx h
 ·exact runary_cpl m a x w hm hx h
 ·exact runary_not m a x w hm hx h
end Go.Proofs.YtlcfejgjeljjdaaGreatDoor
