/- Operations on numbers: the reference -/
import Derived.Test.YtlcfejgjeljjdaaGreatDoorMg15
import Derived.Test.YtlcfejgjeljjdaaGreatDoorMg11
import Derived.Test.YtlcfejgjeljjdaaGreatDoorMg2
namespace Go.Proofs.YtlcfejgjeljjdaaGreatDoor
open Go.RowKit
theorem asI_neg (a:Int) {t:ByteArray} (h:t = uText12 ∨ t = iText12):asI (-(asI a t)) t = asI (-a) t:=by
 refine asI_mod ?_ t
 have:=asI_word a h
 omega
theorem asI_cpl (a:Int) {t:ByteArray} (h:t = uText12 ∨ t = iText12):asI (-(asI a t) - 1) t = asI (-a - 1) t:=by
 refine asI_mod ?_ t
 have:=asI_word a h
 omega
def quoI (a b:Int) (t:ByteArray):Int × Int × Bool:=if b = 0 then (0,0,false) else (asI (a.tdiv b) t,asI (a.tmod b) t,true)
theorem quo_u {a b:Int} (ha:0 ≤ a ∧ a < 4294967296) (hb:0 ≤ b ∧ b < 4294967296):divuW (a % 4294967296) (b % 4294967296) = quoI a b uText12:=by
 unfold divuW quoI
 rw [mod_word ha,mod_word hb]
 by_cases h:b = 0
 ·rw [if_pos h,if_pos h]
 ·rw [if_neg h,if_neg h]
  have e1:a.tdiv b = a / b:=Int.tdiv_eq_ediv_of_nonneg ha.1
  have e2:a.tmod b = a % b:=Int.tmod_eq_emod_of_nonneg ha.1
  have h1:0 ≤ a / b ∧ a / b < 4294967296:=⟨Int.ediv_nonneg ha.1 hb.1,Int.lt_of_le_of_lt (Int.ediv_le_self _ ha.1) ha.2⟩
  have h2:0 ≤ a % b ∧ a % b < 4294967296:=⟨Int.emod_nonneg _ h,by have:=Int.emod_lt_of_pos a (show 0 < b by omega);omega⟩
  rw [e1,e2]
  unfold asI
  rw [if_pos rfl,if_pos rfl,mod_word h1,mod_word h2]
theorem sgn_id {a:Int} (h:-2147483648 ≤ a ∧ a < 2147483648):sgnI 32 (a % 4294967296) = a:=by rw [sgn32];omega
theorem quo_i {a b:Int} (ha:-2147483648 ≤ a ∧ a < 2147483648) (hb:-2147483648 ≤ b ∧ b < 2147483648):quoI a b iText12 = (sgnI 32 (divW (a % 4294967296) (b % 4294967296)).1,sgnI 32 (divW (a % 4294967296) (b % 4294967296)).2.1,(divW (a % 4294967296) (b % 4294967296)).2.2):=by
 unfold divW quoI
 rw [sgn_id ha,sgn_id hb]
 by_cases h:b = 0
 ·rw [if_pos h,if_pos (by omega)];rfl
 ·rw [if_neg h,if_neg (by omega)]
  have e:∀ n,asI n iText12 = sgnI 32 (n % 4294967296):=fun n=>by unfold asI;rw [if_neg (by decide),if_neg (by decide),if_neg (by decide),sgn32,sgn32];omega
  rw [e,e]
theorem divW_bd (x y:Int):0 ≤ (divW x y).1 ∧ (divW x y).1 < 4294967296 ∧ 0 ≤ (divW x y).2.1 ∧ (divW x y).2.1 < 4294967296:=by
 unfold divW
 split
 ·decide
 ·simp only;omega
theorem divuW_bd {x y:Int} (h:0 ≤ x ∧ x < 4294967296) (h2:0 ≤ y ∧ y < 4294967296):0 ≤ (divuW x y).1 ∧ (divuW x y).1 < 4294967296 ∧ 0 ≤ (divuW x y).2.1 ∧ (divuW x y).2.1 < 4294967296:=by
 unfold divuW
 split
 ·decide
 ·rename_i hy
  have h3:0 ≤ x / y ∧ x / y < 4294967296:=⟨Int.ediv_nonneg h.1 h2.1,Int.lt_of_le_of_lt (Int.ediv_le_self _ h.1) h.2⟩
  have h4:0 ≤ x % y ∧ x % y < 4294967296:=⟨Int.emod_nonneg _ hy,by have:=Int.emod_lt_of_pos x (show 0 < y by omega);omega⟩
  exact ⟨h3.1,h3.2,h4.1,h4.2⟩
def FitI (a:Int) (t:ByteArray):Prop:=(t = uText12 ∧ 0 ≤ a ∧ a < 4294967296) ∨ (t = iText12 ∧ -2147483648 ≤ a ∧ a < 2147483648)
theorem fit_as (n:Int) {t:ByteArray} (h:t = uText12 ∨ t = iText12):FitI (asI n t) t:=by
 rcases h with rfl | rfl
 ·left
  unfold asI
  rw [if_pos rfl]
  exact ⟨rfl,by omega,by omega⟩
 ·right
  unfold asI
  rw [if_neg (by decide),if_neg (by decide),if_neg (by decide)]
  exact ⟨rfl,sgn32_range n⟩
theorem rquot_ok (a b:Int) (t:ByteArray) (w:World) (ha:FitI a t) (hb:FitI b t):Calls Tryz.prog 68 #[.int .i64 a,.int .i64 b,.string t] w fun e w'=>e = .returned (.tuple #[.int .i64 (quoI a b t).1,.int .i64 (quoI a b t).2.1,.bool (quoI a b t).2.2]) ∧ Below w.heap.size w w':=by
 rcases ha with ⟨rfl,ha⟩ | ⟨rfl,ha⟩
 ·have hb:0 ≤ b ∧ b < 4294967296:=by rcases hb with ⟨_,h⟩ | ⟨h,_⟩;exact h;exact absurd h (by decide)
  rw [← quo_u ha hb]
  have hma:0 ≤ a % 4294967296 ∧ a % 4294967296 < 4294967296:=by omega
  have hmb:0 ≤ b % 4294967296 ∧ b % 4294967296 < 4294967296:=by omega
  have HD:=Hd (rdivu_ok _ _ w hma hmb)
  have hbd:=divuW_bd hma hmb
  have t1:(uText12.toList == [117]) = true:=lit_eq rfl rfl
  generalize divuW (a % 4294967296) (b % 4294967296) = r at *
  obtain ⟨r1,r2,r3⟩:=r
  simp only at hbd HD ⊢
  have e1:IntKind.i64.wrap r1 = r1:=by rw [IntKind.wrap_i64];omega
  have e2:IntKind.i64.wrap r2 = r2:=by rw [IntKind.wrap_i64];omega
  clear hmb hb hbd ha hma
  generalize uText12 = t at *
  go_enter Tryz.func68,Tryz.ntmps68
  go_wp2_with (go_at_call 93;(with_reducible refine HD.out.mono ?_);rintro e w1 ⟨rfl,hb1⟩;have HB1:=Hd hb1;clear hb1)
  go_ret3
  exact ⟨rfl,HB1.out⟩
 ·have hb:-2147483648 ≤ b ∧ b < 2147483648:=by rcases hb with ⟨h,_⟩ | ⟨_,h⟩;exact absurd h (by decide);exact h
  rw [quo_i ha hb]
  have hma:0 ≤ a % 4294967296 ∧ a % 4294967296 < 4294967296:=by omega
  have hmb:0 ≤ b % 4294967296 ∧ b % 4294967296 < 4294967296:=by omega
  have HO:=Hd (fun n=>rof_ok n w)
  have HD:=Hd (rdiv_ok _ _ w hma hmb)
  have hbd:=divW_bd (a % 4294967296) (b % 4294967296)
  have t1:(iText12.toList == [117]) = false:=lit_eq rfl rfl
  generalize divW (a % 4294967296) (b % 4294967296) = r at *
  obtain ⟨r1,r2,r3⟩:=r
  simp only at hbd HD ⊢
  have HS1:=Hd (rsigned_ok r1 w ⟨hbd.1,hbd.2.1⟩)
  have HS2:=Hd (rsigned_ok r2 w ⟨hbd.2.2.1,hbd.2.2.2⟩)
  clear hmb hb hbd ha hma
  generalize iText12 = t at *
  go_enter Tryz.func68,Tryz.ntmps68
  go_wp2_with (first | (go_at_call 64;(with_reducible refine (HO.out _).mono ?_);rintro e w1 ⟨rfl,hw⟩;subst w1) | (go_at_call 94;(with_reducible refine HD.out.mono ?_);rintro e w1 ⟨rfl,hw⟩;subst w1) | (go_at_call 66;(first | (with_reducible refine HS1.out.mono ?_) | (with_reducible refine HS2.out.mono ?_));rintro e w1 ⟨rfl,hw⟩;subst w1))
  go_ret3
  exact ⟨rfl,Below.refl _ _⟩
def reckV:Option Int → Value
 | some n=>.tuple #[.int .i64 n,.bool true]
 | none=>.tuple #[.int .i64 0,.bool false]
set_option maxRecDepth 100000 in
theorem reck_mul (a b:Int) (t:ByteArray) (w:World):Calls Tryz.prog 37 #[.string mMul,.int .i64 a,.int .i64 b,.string t] w fun e w'=>e = .returned (reckV (some (asI (mulW a b) t))) ∧ Below w.heap.size w w':=by
 have t0:(mMul.toList == [42]) = true:=lit_eq rfl rfl
 have HO:=Hd (fun n=>rof_ok n w)
 have hma:0 ≤ a % 4294967296 ∧ a % 4294967296 < 4294967296:=by omega
 have hmb:0 ≤ b % 4294967296 ∧ b % 4294967296 < 4294967296:=by omega
 have hm:=mul_range a b
 have HA:=Hd (ras_ok (mulW a b) t w)
 have e1:(a % 4294967296) * (b % 4294967296) % 4294967296 = mulW a b:=rfl
 have e2:IntKind.u32.wrap ((a % 4294967296) * (b % 4294967296)) = mulW a b:=by rw [IntKind.wrap_u32];rfl
 generalize mulW a b = z at *
 have e3:IntKind.i64.wrap z = z:=by rw [IntKind.wrap_i64];omega
 unfold reckV
 generalize mMul = mk at *
 go_enter Tryz.func37,Tryz.ntmps37
 go_wp2_with (first | (go_at_call 64;(with_reducible refine (HO.out _).mono ?_);rintro e w1 ⟨rfl,hw⟩;subst w1) | (go_at_call 34;(with_reducible refine HA.out.mono ?_);rintro e w1 ⟨rfl,hw⟩;subst w1))
 go_ret2
 exact ⟨rfl,Below.refl _ _⟩
set_option maxRecDepth 100000 in
theorem reck_div0 (a b:Int) (t:ByteArray) (w:World) (hfa:FitI a t) (hfb:FitI b t) (hz:b = 0):Calls Tryz.prog 37 #[.string mDiv,.int .i64 a,.int .i64 b,.string t] w fun e w'=>e = .returned (reckV (none)) ∧ Below w.heap.size w w':=by
 have t0:(mDiv.toList == [42]) = false:=lit_eq rfl rfl
 have t1:(mDiv.toList == [47]) = true:=lit_eq rfl rfl
 have HQ:=Hd (rquot_ok a b t w hfa hfb)
 have e:quoI a b t = (0,0,false):=if_pos hz
 rw [e] at HQ
 simp only at HQ
 clear e hz hfa hfb
 unfold reckV
 generalize mDiv = mk at *
 go_enter Tryz.func37,Tryz.ntmps37
 go_wp2_with (first | (go_at_call 68;(with_reducible refine HQ.out.mono ?_);rintro e w1 ⟨rfl,hb1⟩;have HB1:=Hd hb1;clear hb1))
 go_ret2
 exact ⟨rfl,HB1.out⟩
set_option maxRecDepth 100000 in
theorem reck_div1 (a b:Int) (t:ByteArray) (w:World) (hfa:FitI a t) (hfb:FitI b t) (hz:b ≠ 0):Calls Tryz.prog 37 #[.string mDiv,.int .i64 a,.int .i64 b,.string t] w fun e w'=>e = .returned (reckV (some (asI (a.tdiv b) t))) ∧ Below w.heap.size w w':=by
 have t0:(mDiv.toList == [42]) = false:=lit_eq rfl rfl
 have t1:(mDiv.toList == [47]) = true:=lit_eq rfl rfl
 have HQ:=Hd (rquot_ok a b t w hfa hfb)
 have e:quoI a b t = (asI (a.tdiv b) t,asI (a.tmod b) t,true):=if_neg hz
 rw [e] at HQ
 simp only at HQ
 clear e hz hfa hfb
 unfold reckV
 generalize mDiv = mk at *
 go_enter Tryz.func37,Tryz.ntmps37
 go_wp2_with (first | (go_at_call 68;(with_reducible refine HQ.out.mono ?_);rintro e w1 ⟨rfl,hb1⟩;have HB1:=Hd hb1;clear hb1))
 go_ret2
 exact ⟨rfl,HB1.out⟩
set_option maxRecDepth 100000 in
theorem reck_rem0 (a b:Int) (t:ByteArray) (w:World) (hfa:FitI a t) (hfb:FitI b t) (hz:b = 0):Calls Tryz.prog 37 #[.string mRem,.int .i64 a,.int .i64 b,.string t] w fun e w'=>e = .returned (reckV (none)) ∧ Below w.heap.size w w':=by
 have t0:(mRem.toList == [42]) = false:=lit_eq rfl rfl
 have t1:(mRem.toList == [47]) = false:=lit_eq rfl rfl
 have t2:(mRem.toList == [37]) = true:=lit_eq rfl rfl
 have HQ:=Hd (rquot_ok a b t w hfa hfb)
 have e:quoI a b t = (0,0,false):=if_pos hz
 rw [e] at HQ
 simp only at HQ
 clear e hz hfa hfb
 unfold reckV
 generalize mRem = mk at *
 go_enter Tryz.func37,Tryz.ntmps37
 go_wp2_with (first | (go_at_call 68;(with_reducible refine HQ.out.mono ?_);rintro e w1 ⟨rfl,hb1⟩;have HB1:=Hd hb1;clear hb1))
 go_ret2
 exact ⟨rfl,HB1.out⟩
set_option maxRecDepth 100000 in
theorem reck_rem1 (a b:Int) (t:ByteArray) (w:World) (hfa:FitI a t) (hfb:FitI b t) (hz:b ≠ 0):Calls Tryz.prog 37 #[.string mRem,.int .i64 a,.int .i64 b,.string t] w fun e w'=>e = .returned (reckV (some (asI (a.tmod b) t))) ∧ Below w.heap.size w w':=by
 have t0:(mRem.toList == [42]) = false:=lit_eq rfl rfl
 have t1:(mRem.toList == [47]) = false:=lit_eq rfl rfl
 have t2:(mRem.toList == [37]) = true:=lit_eq rfl rfl
 have HQ:=Hd (rquot_ok a b t w hfa hfb)
 have e:quoI a b t = (asI (a.tdiv b) t,asI (a.tmod b) t,true):=if_neg hz
 rw [e] at HQ
 simp only at HQ
 clear e hz hfa hfb
 unfold reckV
 generalize mRem = mk at *
 go_enter Tryz.func37,Tryz.ntmps37
 go_wp2_with (first | (go_at_call 68;(with_reducible refine HQ.out.mono ?_);rintro e w1 ⟨rfl,hb1⟩;have HB1:=Hd hb1;clear hb1))
 go_ret2
 exact ⟨rfl,HB1.out⟩
set_option maxRecDepth 100000 in
theorem reck_add (a b:Int) (t:ByteArray) (w:World) (ha:-2147483648 ≤ a ∧ a < 4294967296) (hb:-2147483648 ≤ b ∧ b < 4294967296):Calls Tryz.prog 37 #[.string mAdd,.int .i64 a,.int .i64 b,.string t] w fun e w'=>e = .returned (reckV (some (asI (a + b) t))) ∧ Below w.heap.size w w':=by
 have t0:(mAdd.toList == [42]) = false:=lit_eq rfl rfl
 have t1:(mAdd.toList == [47]) = false:=lit_eq rfl rfl
 have t2:(mAdd.toList == [37]) = false:=lit_eq rfl rfl
 have t3:(mAdd.toList == [43]) = true:=lit_eq rfl rfl
 have HA:=Hd (ras_ok (a + b) t w)
 have e1:IntKind.i64.wrap (a + b) = a + b:=by rw [IntKind.wrap_i64];omega
 unfold reckV
 generalize mAdd = mk at *
 go_enter Tryz.func37,Tryz.ntmps37
 go_wp2_with (first | (go_at_call 34;(with_reducible refine HA.out.mono ?_);rintro e w1 ⟨rfl,hw⟩;subst w1))
 go_ret2
 exact ⟨rfl,Below.refl _ _⟩
set_option maxRecDepth 100000 in
theorem reck_sub (a b:Int) (t:ByteArray) (w:World) (ha:-2147483648 ≤ a ∧ a < 4294967296) (hb:-2147483648 ≤ b ∧ b < 4294967296):Calls Tryz.prog 37 #[.string mSub,.int .i64 a,.int .i64 b,.string t] w fun e w'=>e = .returned (reckV (some (asI (a - b) t))) ∧ Below w.heap.size w w':=by
 have t0:(mSub.toList == [42]) = false:=lit_eq rfl rfl
 have t1:(mSub.toList == [47]) = false:=lit_eq rfl rfl
 have t2:(mSub.toList == [37]) = false:=lit_eq rfl rfl
 have t3:(mSub.toList == [43]) = false:=lit_eq rfl rfl
 have t4:(mSub.toList == [45]) = true:=lit_eq rfl rfl
 have HA:=Hd (ras_ok (a - b) t w)
 have e1:IntKind.i64.wrap (a - b) = a - b:=by rw [IntKind.wrap_i64];omega
 unfold reckV
 generalize mSub = mk at *
 go_enter Tryz.func37,Tryz.ntmps37
 go_wp2_with (first | (go_at_call 34;(with_reducible refine HA.out.mono ?_);rintro e w1 ⟨rfl,hw⟩;subst w1))
 go_ret2
 exact ⟨rfl,Below.refl _ _⟩
set_option maxRecDepth 100000 in
theorem reck_shl (a b:Int) (t:ByteArray) (w:World):Calls Tryz.prog 37 #[.string mShl,.int .i64 a,.int .i64 b,.string t] w fun e w'=>e = .returned (reckV (some (asI (shlW a b) t))) ∧ Below w.heap.size w w':=by
 have t0:(mShl.toList == [42]) = false:=lit_eq rfl rfl
 have t1:(mShl.toList == [47]) = false:=lit_eq rfl rfl
 have t2:(mShl.toList == [37]) = false:=lit_eq rfl rfl
 have t3:(mShl.toList == [43]) = false:=lit_eq rfl rfl
 have t4:(mShl.toList == [45]) = false:=lit_eq rfl rfl
 have t5:(mShl.toList == [60,60]) = true:=lit_eq rfl rfl
 have HO:=Hd (fun n=>rof_ok n w)
 have hma:0 ≤ a % 4294967296 ∧ a % 4294967296 < 4294967296:=by omega
 have hmb:0 ≤ b % 4294967296 ∧ b % 4294967296 < 4294967296:=by omega
 have hm:=shl_range a b
 have HA:=Hd (ras_ok (shlW a b) t w)
 have HS:=Hd (shl_words a b ▸ rshl_ok (a % 4294967296) (b % 4294967296) w hma hmb)
 generalize shlW a b = z at *
 have e3:IntKind.i64.wrap z = z:=by rw [IntKind.wrap_i64];omega
 unfold reckV
 generalize mShl = mk at *
 go_enter Tryz.func37,Tryz.ntmps37
 go_wp2_with (first | (go_at_call 64;(with_reducible refine (HO.out _).mono ?_);rintro e w1 ⟨rfl,hw⟩;subst w1) | (go_at_call 34;(with_reducible refine HA.out.mono ?_);rintro e w1 ⟨rfl,hw⟩;subst w1) | (go_at_call 69;(with_reducible refine HS.out.mono ?_);rintro e w1 ⟨rfl,hw⟩;subst w1))
 go_ret2
 exact ⟨rfl,Below.refl _ _⟩
set_option maxRecDepth 100000 in
theorem reck_shru (a b:Int) (t:ByteArray) (w:World) (ht:t = uText12):Calls Tryz.prog 37 #[.string mShr,.int .i64 a,.int .i64 b,.string t] w fun e w'=>e = .returned (reckV (some (shruW a b))) ∧ Below w.heap.size w w':=by
 have t0:(mShr.toList == [42]) = false:=lit_eq rfl rfl
 have t1:(mShr.toList == [47]) = false:=lit_eq rfl rfl
 have t2:(mShr.toList == [37]) = false:=lit_eq rfl rfl
 have t3:(mShr.toList == [43]) = false:=lit_eq rfl rfl
 have t4:(mShr.toList == [45]) = false:=lit_eq rfl rfl
 have t5:(mShr.toList == [60,60]) = false:=lit_eq rfl rfl
 have t6:(mShr.toList == [62,62]) = true:=lit_eq rfl rfl
 have HO:=Hd (fun n=>rof_ok n w)
 have hma:0 ≤ a % 4294967296 ∧ a % 4294967296 < 4294967296:=by omega
 have hmb:0 ≤ b % 4294967296 ∧ b % 4294967296 < 4294967296:=by omega
 have hm:=shru_range a b
 have tt:(t.toList == [117]) = true:=by rw [str_one];exact decide_eq_true ht
 have HS:=Hd (shru_words a b ▸ rshru_ok (a % 4294967296) (b % 4294967296) w hma hmb)
 generalize shruW a b = z at *
 have e3:IntKind.i64.wrap z = z:=by rw [IntKind.wrap_i64];omega
 clear ht
 unfold reckV
 generalize mShr = mk at *
 go_enter Tryz.func37,Tryz.ntmps37
 go_wp2_with (first | (go_at_call 64;(with_reducible refine (HO.out _).mono ?_);rintro e w1 ⟨rfl,hw⟩;subst w1) | (go_at_call 70;(with_reducible refine HS.out.mono ?_);rintro e w1 ⟨rfl,hw⟩;subst w1))
 go_ret2
 exact ⟨rfl,Below.refl _ _⟩
set_option maxRecDepth 100000 in
theorem reck_shrs (a b:Int) (t:ByteArray) (w:World) (ht:t ≠ uText12):Calls Tryz.prog 37 #[.string mShr,.int .i64 a,.int .i64 b,.string t] w fun e w'=>e = .returned (reckV (some (asI (shrsW a b) t))) ∧ Below w.heap.size w w':=by
 have t0:(mShr.toList == [42]) = false:=lit_eq rfl rfl
 have t1:(mShr.toList == [47]) = false:=lit_eq rfl rfl
 have t2:(mShr.toList == [37]) = false:=lit_eq rfl rfl
 have t3:(mShr.toList == [43]) = false:=lit_eq rfl rfl
 have t4:(mShr.toList == [45]) = false:=lit_eq rfl rfl
 have t5:(mShr.toList == [60,60]) = false:=lit_eq rfl rfl
 have t6:(mShr.toList == [62,62]) = true:=lit_eq rfl rfl
 have HO:=Hd (fun n=>rof_ok n w)
 have hma:0 ≤ a % 4294967296 ∧ a % 4294967296 < 4294967296:=by omega
 have hmb:0 ≤ b % 4294967296 ∧ b % 4294967296 < 4294967296:=by omega
 have hm:=shrs_range a b
 have tt:(t.toList == [117]) = false:=by rw [str_one];exact decide_eq_false ht
 have HA:=Hd (ras_ok (shrsW a b) t w)
 have HS:=Hd (shrs_words a b ▸ rshr_ok (a % 4294967296) (b % 4294967296) w hma hmb)
 generalize shrsW a b = z at *
 have e3:IntKind.i64.wrap z = z:=by rw [IntKind.wrap_i64];omega
 clear ht
 unfold reckV
 generalize mShr = mk at *
 go_enter Tryz.func37,Tryz.ntmps37
 go_wp2_with (first | (go_at_call 64;(with_reducible refine (HO.out _).mono ?_);rintro e w1 ⟨rfl,hw⟩;subst w1) | (go_at_call 34;(with_reducible refine HA.out.mono ?_);rintro e w1 ⟨rfl,hw⟩;subst w1) | (go_at_call 71;(with_reducible refine HS.out.mono ?_);rintro e w1 ⟨rfl,hw⟩;subst w1))
 go_ret2
 exact ⟨rfl,Below.refl _ _⟩
set_option maxRecDepth 100000 in
theorem reck_lt (a b:Int) (t:ByteArray) (w:World):Calls Tryz.prog 37 #[.string mLt,.int .i64 a,.int .i64 b,.string t] w fun e w'=>e = .returned (reckV (some (truthI (decide (a < b))))) ∧ Below w.heap.size w w':=by
 have t0:(mLt.toList == [42]) = false:=lit_eq rfl rfl
 have t1:(mLt.toList == [47]) = false:=lit_eq rfl rfl
 have t2:(mLt.toList == [37]) = false:=lit_eq rfl rfl
 have t3:(mLt.toList == [43]) = false:=lit_eq rfl rfl
 have t4:(mLt.toList == [45]) = false:=lit_eq rfl rfl
 have t5:(mLt.toList == [60,60]) = false:=lit_eq rfl rfl
 have t6:(mLt.toList == [62,62]) = false:=lit_eq rfl rfl
 have t7:(mLt.toList == [60]) = true:=lit_eq rfl rfl
 have HT:=Hd (rtruth_ok (decide (a < b)) w)
 unfold reckV
 generalize mLt = mk at *
 go_enter Tryz.func37,Tryz.ntmps37
 go_wp2_with (first | (go_at_call 41;(with_reducible refine HT.out.mono ?_);rintro e w1 ⟨rfl,hw⟩;subst w1))
 go_ret2
 exact ⟨rfl,Below.refl _ _⟩
set_option maxRecDepth 100000 in
theorem reck_gt (a b:Int) (t:ByteArray) (w:World):Calls Tryz.prog 37 #[.string mGt,.int .i64 a,.int .i64 b,.string t] w fun e w'=>e = .returned (reckV (some (truthI (decide (b < a))))) ∧ Below w.heap.size w w':=by
 have t0:(mGt.toList == [42]) = false:=lit_eq rfl rfl
 have t1:(mGt.toList == [47]) = false:=lit_eq rfl rfl
 have t2:(mGt.toList == [37]) = false:=lit_eq rfl rfl
 have t3:(mGt.toList == [43]) = false:=lit_eq rfl rfl
 have t4:(mGt.toList == [45]) = false:=lit_eq rfl rfl
 have t5:(mGt.toList == [60,60]) = false:=lit_eq rfl rfl
 have t6:(mGt.toList == [62,62]) = false:=lit_eq rfl rfl
 have t7:(mGt.toList == [60]) = false:=lit_eq rfl rfl
 have t8:(mGt.toList == [62]) = true:=lit_eq rfl rfl
 have HT:=Hd (rtruth_ok (decide (b < a)) w)
 unfold reckV
 generalize mGt = mk at *
 go_enter Tryz.func37,Tryz.ntmps37
 go_wp2_with (first | (go_at_call 41;(with_reducible refine HT.out.mono ?_);rintro e w1 ⟨rfl,hw⟩;subst w1))
 go_ret2
 exact ⟨rfl,Below.refl _ _⟩
set_option maxRecDepth 100000 in
theorem reck_le (a b:Int) (t:ByteArray) (w:World):Calls Tryz.prog 37 #[.string mLe,.int .i64 a,.int .i64 b,.string t] w fun e w'=>e = .returned (reckV (some (truthI (decide (a ≤ b))))) ∧ Below w.heap.size w w':=by
 have t0:(mLe.toList == [42]) = false:=lit_eq rfl rfl
 have t1:(mLe.toList == [47]) = false:=lit_eq rfl rfl
 have t2:(mLe.toList == [37]) = false:=lit_eq rfl rfl
 have t3:(mLe.toList == [43]) = false:=lit_eq rfl rfl
 have t4:(mLe.toList == [45]) = false:=lit_eq rfl rfl
 have t5:(mLe.toList == [60,60]) = false:=lit_eq rfl rfl
 have t6:(mLe.toList == [62,62]) = false:=lit_eq rfl rfl
 have t7:(mLe.toList == [60]) = false:=lit_eq rfl rfl
 have t8:(mLe.toList == [62]) = false:=lit_eq rfl rfl
 have t9:(mLe.toList == [60,61]) = true:=lit_eq rfl rfl
 have HT:=Hd (rtruth_ok (decide (a ≤ b)) w)
 unfold reckV
 generalize mLe = mk at *
 go_enter Tryz.func37,Tryz.ntmps37
 go_wp2_with (first | (go_at_call 41;(with_reducible refine HT.out.mono ?_);rintro e w1 ⟨rfl,hw⟩;subst w1))
 go_ret2
 exact ⟨rfl,Below.refl _ _⟩
set_option maxRecDepth 100000 in
theorem reck_ge (a b:Int) (t:ByteArray) (w:World):Calls Tryz.prog 37 #[.string mGe,.int .i64 a,.int .i64 b,.string t] w fun e w'=>e = .returned (reckV (some (truthI (decide (b ≤ a))))) ∧ Below w.heap.size w w':=by
 have t0:(mGe.toList == [42]) = false:=lit_eq rfl rfl
 have t1:(mGe.toList == [47]) = false:=lit_eq rfl rfl
 have t2:(mGe.toList == [37]) = false:=lit_eq rfl rfl
 have t3:(mGe.toList == [43]) = false:=lit_eq rfl rfl
 have t4:(mGe.toList == [45]) = false:=lit_eq rfl rfl
 have t5:(mGe.toList == [60,60]) = false:=lit_eq rfl rfl
 have t6:(mGe.toList == [62,62]) = false:=lit_eq rfl rfl
 have t7:(mGe.toList == [60]) = false:=lit_eq rfl rfl
 have t8:(mGe.toList == [62]) = false:=lit_eq rfl rfl
 have t9:(mGe.toList == [60,61]) = false:=lit_eq rfl rfl
 have t10:(mGe.toList == [62,61]) = true:=lit_eq rfl rfl
 have HT:=Hd (rtruth_ok (decide (b ≤ a)) w)
 unfold reckV
 generalize mGe = mk at *
 go_enter Tryz.func37,Tryz.ntmps37
 go_wp2_with (first | (go_at_call 41;(with_reducible refine HT.out.mono ?_);rintro e w1 ⟨rfl,hw⟩;subst w1))
 go_ret2
 exact ⟨rfl,Below.refl _ _⟩
set_option maxRecDepth 100000 in
theorem reck_eq (a b:Int) (t:ByteArray) (w:World):Calls Tryz.prog 37 #[.string mEq,.int .i64 a,.int .i64 b,.string t] w fun e w'=>e = .returned (reckV (some (truthI ((a == b))))) ∧ Below w.heap.size w w':=by
 have t0:(mEq.toList == [42]) = false:=lit_eq rfl rfl
 have t1:(mEq.toList == [47]) = false:=lit_eq rfl rfl
 have t2:(mEq.toList == [37]) = false:=lit_eq rfl rfl
 have t3:(mEq.toList == [43]) = false:=lit_eq rfl rfl
 have t4:(mEq.toList == [45]) = false:=lit_eq rfl rfl
 have t5:(mEq.toList == [60,60]) = false:=lit_eq rfl rfl
 have t6:(mEq.toList == [62,62]) = false:=lit_eq rfl rfl
 have t7:(mEq.toList == [60]) = false:=lit_eq rfl rfl
 have t8:(mEq.toList == [62]) = false:=lit_eq rfl rfl
 have t9:(mEq.toList == [60,61]) = false:=lit_eq rfl rfl
 have t10:(mEq.toList == [62,61]) = false:=lit_eq rfl rfl
 have t11:(mEq.toList == [61,61]) = true:=lit_eq rfl rfl
 have HT:=Hd (rtruth_ok ((a == b)) w)
 unfold reckV
 generalize mEq = mk at *
 go_enter Tryz.func37,Tryz.ntmps37
 go_wp2_with (first | (go_at_call 41;(with_reducible refine HT.out.mono ?_);rintro e w1 ⟨rfl,hw⟩;subst w1))
 go_ret2
 exact ⟨rfl,Below.refl _ _⟩
set_option maxRecDepth 100000 in
theorem reck_ne (a b:Int) (t:ByteArray) (w:World):Calls Tryz.prog 37 #[.string mNe,.int .i64 a,.int .i64 b,.string t] w fun e w'=>e = .returned (reckV (some (truthI ((a != b))))) ∧ Below w.heap.size w w':=by
 have t0:(mNe.toList == [42]) = false:=lit_eq rfl rfl
 have t1:(mNe.toList == [47]) = false:=lit_eq rfl rfl
 have t2:(mNe.toList == [37]) = false:=lit_eq rfl rfl
 have t3:(mNe.toList == [43]) = false:=lit_eq rfl rfl
 have t4:(mNe.toList == [45]) = false:=lit_eq rfl rfl
 have t5:(mNe.toList == [60,60]) = false:=lit_eq rfl rfl
 have t6:(mNe.toList == [62,62]) = false:=lit_eq rfl rfl
 have t7:(mNe.toList == [60]) = false:=lit_eq rfl rfl
 have t8:(mNe.toList == [62]) = false:=lit_eq rfl rfl
 have t9:(mNe.toList == [60,61]) = false:=lit_eq rfl rfl
 have t10:(mNe.toList == [62,61]) = false:=lit_eq rfl rfl
 have t11:(mNe.toList == [61,61]) = false:=lit_eq rfl rfl
 have t12:(mNe.toList == [33,61]) = true:=lit_eq rfl rfl
 have HT:=Hd (rtruth_ok ((a != b)) w)
 unfold reckV
 generalize mNe = mk at *
 go_enter Tryz.func37,Tryz.ntmps37
 go_wp2_with (first | (go_at_call 41;(with_reducible refine HT.out.mono ?_);rintro e w1 ⟨rfl,hw⟩;subst w1))
 go_ret2
 exact ⟨rfl,Below.refl _ _⟩
set_option maxRecDepth 100000 in
theorem reck_and (a b:Int) (t:ByteArray) (w:World):Calls Tryz.prog 37 #[.string mAnd,.int .i64 a,.int .i64 b,.string t] w fun e w'=>e = .returned (reckV (some (asI (bits .and .i64 a b) t))) ∧ Below w.heap.size w w':=by
 have t0:(mAnd.toList == [42]) = false:=lit_eq rfl rfl
 have t1:(mAnd.toList == [47]) = false:=lit_eq rfl rfl
 have t2:(mAnd.toList == [37]) = false:=lit_eq rfl rfl
 have t3:(mAnd.toList == [43]) = false:=lit_eq rfl rfl
 have t4:(mAnd.toList == [45]) = false:=lit_eq rfl rfl
 have t5:(mAnd.toList == [60,60]) = false:=lit_eq rfl rfl
 have t6:(mAnd.toList == [62,62]) = false:=lit_eq rfl rfl
 have t7:(mAnd.toList == [60]) = false:=lit_eq rfl rfl
 have t8:(mAnd.toList == [62]) = false:=lit_eq rfl rfl
 have t9:(mAnd.toList == [60,61]) = false:=lit_eq rfl rfl
 have t10:(mAnd.toList == [62,61]) = false:=lit_eq rfl rfl
 have t11:(mAnd.toList == [61,61]) = false:=lit_eq rfl rfl
 have t12:(mAnd.toList == [33,61]) = false:=lit_eq rfl rfl
 have t13:(mAnd.toList == [38]) = true:=lit_eq rfl rfl
 have HO:=Hd (fun n=>rof_ok n w)
 have hma:0 ≤ a % 4294967296 ∧ a % 4294967296 < 4294967296:=by omega
 have hmb:0 ≤ b % 4294967296 ∧ b % 4294967296 < 4294967296:=by omega
 have hm:0 ≤ bits .and .u32 (a % 4294967296) (b % 4294967296) ∧ bits .and .u32 (a % 4294967296) (b % 4294967296) ≤ 4294967295:=⟨bits_lo_u32 _ _ _,bits_hi_u32 _ _ _⟩
 have HA:=Hd (asI_and a b t ▸ ras_ok (bits .and .u32 (a % 4294967296) (b % 4294967296)) t w)
 generalize hzz:bits .and .u32 (a % 4294967296) (b % 4294967296) = z at *
 have e3:IntKind.i64.wrap z = z:=by rw [IntKind.wrap_i64];omega
 unfold reckV
 generalize mAnd = mk at *
 go_enter Tryz.func37,Tryz.ntmps37
 go_wp2_with (first | (go_at_call 64;(with_reducible refine (HO.out _).mono ?_);rintro e w1 ⟨rfl,hw⟩;subst w1) | (go_at_call 34;(with_reducible refine HA.out.mono ?_);rintro e w1 ⟨rfl,hw⟩;subst w1))
 go_ret2
 exact ⟨rfl,Below.refl _ _⟩
set_option maxRecDepth 100000 in
theorem reck_xor (a b:Int) (t:ByteArray) (w:World):Calls Tryz.prog 37 #[.string mXor,.int .i64 a,.int .i64 b,.string t] w fun e w'=>e = .returned (reckV (some (asI (bits .xor .i64 a b) t))) ∧ Below w.heap.size w w':=by
 have t0:(mXor.toList == [42]) = false:=lit_eq rfl rfl
 have t1:(mXor.toList == [47]) = false:=lit_eq rfl rfl
 have t2:(mXor.toList == [37]) = false:=lit_eq rfl rfl
 have t3:(mXor.toList == [43]) = false:=lit_eq rfl rfl
 have t4:(mXor.toList == [45]) = false:=lit_eq rfl rfl
 have t5:(mXor.toList == [60,60]) = false:=lit_eq rfl rfl
 have t6:(mXor.toList == [62,62]) = false:=lit_eq rfl rfl
 have t7:(mXor.toList == [60]) = false:=lit_eq rfl rfl
 have t8:(mXor.toList == [62]) = false:=lit_eq rfl rfl
 have t9:(mXor.toList == [60,61]) = false:=lit_eq rfl rfl
 have t10:(mXor.toList == [62,61]) = false:=lit_eq rfl rfl
 have t11:(mXor.toList == [61,61]) = false:=lit_eq rfl rfl
 have t12:(mXor.toList == [33,61]) = false:=lit_eq rfl rfl
 have t13:(mXor.toList == [38]) = false:=lit_eq rfl rfl
 have t14:(mXor.toList == [94]) = true:=lit_eq rfl rfl
 have HO:=Hd (fun n=>rof_ok n w)
 have hma:0 ≤ a % 4294967296 ∧ a % 4294967296 < 4294967296:=by omega
 have hmb:0 ≤ b % 4294967296 ∧ b % 4294967296 < 4294967296:=by omega
 have hm:0 ≤ bits .xor .u32 (a % 4294967296) (b % 4294967296) ∧ bits .xor .u32 (a % 4294967296) (b % 4294967296) ≤ 4294967295:=⟨bits_lo_u32 _ _ _,bits_hi_u32 _ _ _⟩
 have HA:=Hd (asI_xor a b t ▸ ras_ok (bits .xor .u32 (a % 4294967296) (b % 4294967296)) t w)
 generalize hzz:bits .xor .u32 (a % 4294967296) (b % 4294967296) = z at *
 have e3:IntKind.i64.wrap z = z:=by rw [IntKind.wrap_i64];omega
 unfold reckV
 generalize mXor = mk at *
 go_enter Tryz.func37,Tryz.ntmps37
 go_wp2_with (first | (go_at_call 64;(with_reducible refine (HO.out _).mono ?_);rintro e w1 ⟨rfl,hw⟩;subst w1) | (go_at_call 34;(with_reducible refine HA.out.mono ?_);rintro e w1 ⟨rfl,hw⟩;subst w1))
 go_ret2
 exact ⟨rfl,Below.refl _ _⟩
set_option maxRecDepth 100000 in
theorem reck_or (a b:Int) (t:ByteArray) (w:World):Calls Tryz.prog 37 #[.string mOr,.int .i64 a,.int .i64 b,.string t] w fun e w'=>e = .returned (reckV (some (asI (bits .or .i64 a b) t))) ∧ Below w.heap.size w w':=by
 have t0:(mOr.toList == [42]) = false:=lit_eq rfl rfl
 have t1:(mOr.toList == [47]) = false:=lit_eq rfl rfl
 have t2:(mOr.toList == [37]) = false:=lit_eq rfl rfl
 have t3:(mOr.toList == [43]) = false:=lit_eq rfl rfl
 have t4:(mOr.toList == [45]) = false:=lit_eq rfl rfl
 have t5:(mOr.toList == [60,60]) = false:=lit_eq rfl rfl
 have t6:(mOr.toList == [62,62]) = false:=lit_eq rfl rfl
 have t7:(mOr.toList == [60]) = false:=lit_eq rfl rfl
 have t8:(mOr.toList == [62]) = false:=lit_eq rfl rfl
 have t9:(mOr.toList == [60,61]) = false:=lit_eq rfl rfl
 have t10:(mOr.toList == [62,61]) = false:=lit_eq rfl rfl
 have t11:(mOr.toList == [61,61]) = false:=lit_eq rfl rfl
 have t12:(mOr.toList == [33,61]) = false:=lit_eq rfl rfl
 have t13:(mOr.toList == [38]) = false:=lit_eq rfl rfl
 have t14:(mOr.toList == [94]) = false:=lit_eq rfl rfl
 have t15:(mOr.toList == [124]) = true:=lit_eq rfl rfl
 have HO:=Hd (fun n=>rof_ok n w)
 have hma:0 ≤ a % 4294967296 ∧ a % 4294967296 < 4294967296:=by omega
 have hmb:0 ≤ b % 4294967296 ∧ b % 4294967296 < 4294967296:=by omega
 have hm:0 ≤ bits .or .u32 (a % 4294967296) (b % 4294967296) ∧ bits .or .u32 (a % 4294967296) (b % 4294967296) ≤ 4294967295:=⟨bits_lo_u32 _ _ _,bits_hi_u32 _ _ _⟩
 have HA:=Hd (asI_or a b t ▸ ras_ok (bits .or .u32 (a % 4294967296) (b % 4294967296)) t w)
 generalize hzz:bits .or .u32 (a % 4294967296) (b % 4294967296) = z at *
 have e3:IntKind.i64.wrap z = z:=by rw [IntKind.wrap_i64];omega
 unfold reckV
 generalize mOr = mk at *
 go_enter Tryz.func37,Tryz.ntmps37
 go_wp2_with (first | (go_at_call 64;(with_reducible refine (HO.out _).mono ?_);rintro e w1 ⟨rfl,hw⟩;subst w1) | (go_at_call 34;(with_reducible refine HA.out.mono ?_);rintro e w1 ⟨rfl,hw⟩;subst w1))
 go_ret2
 exact ⟨rfl,Below.refl _ _⟩
set_option maxRecDepth 100000 in
theorem reck_both0 (a b:Int) (t:ByteArray) (w:World) (hz:a = 0):Calls Tryz.prog 37 #[.string mAnd2,.int .i64 a,.int .i64 b,.string t] w fun e w'=>e = .returned (reckV (some (truthI (decide (a ≠ 0) && decide (b ≠ 0))))) ∧ Below w.heap.size w w':=by
 have t0:(mAnd2.toList == [42]) = false:=lit_eq rfl rfl
 have t1:(mAnd2.toList == [47]) = false:=lit_eq rfl rfl
 have t2:(mAnd2.toList == [37]) = false:=lit_eq rfl rfl
 have t3:(mAnd2.toList == [43]) = false:=lit_eq rfl rfl
 have t4:(mAnd2.toList == [45]) = false:=lit_eq rfl rfl
 have t5:(mAnd2.toList == [60,60]) = false:=lit_eq rfl rfl
 have t6:(mAnd2.toList == [62,62]) = false:=lit_eq rfl rfl
 have t7:(mAnd2.toList == [60]) = false:=lit_eq rfl rfl
 have t8:(mAnd2.toList == [62]) = false:=lit_eq rfl rfl
 have t9:(mAnd2.toList == [60,61]) = false:=lit_eq rfl rfl
 have t10:(mAnd2.toList == [62,61]) = false:=lit_eq rfl rfl
 have t11:(mAnd2.toList == [61,61]) = false:=lit_eq rfl rfl
 have t12:(mAnd2.toList == [33,61]) = false:=lit_eq rfl rfl
 have t13:(mAnd2.toList == [38]) = false:=lit_eq rfl rfl
 have t14:(mAnd2.toList == [94]) = false:=lit_eq rfl rfl
 have t15:(mAnd2.toList == [124]) = false:=lit_eq rfl rfl
 have t16:(mAnd2.toList == [38,38]) = true:=lit_eq rfl rfl
 have HT:=Hd (show Calls Tryz.prog 41 #[.bool false] w (fun e w'=>e = .returned (.int .i64 (truthI (decide (a ≠ 0) && decide (b ≠ 0)))) ∧ w' = w) from by rw [show (decide (a ≠ 0) && decide (b ≠ 0)) = false by simp [hz]];exact rtruth_ok false w)
 have tz:(a != 0) = false:=by simpa using hz
 generalize truthI _ = r at *
 clear hz
 unfold reckV
 generalize mAnd2 = mk at *
 go_enter Tryz.func37,Tryz.ntmps37
 go_wp2_with (first | (go_at_call 41;(with_reducible refine HT.out.mono ?_);rintro e w1 ⟨rfl,hw⟩;subst w1))
 go_ret2
 exact ⟨rfl,Below.refl _ _⟩
set_option maxRecDepth 100000 in
theorem reck_both1 (a b:Int) (t:ByteArray) (w:World) (hz:a ≠ 0):Calls Tryz.prog 37 #[.string mAnd2,.int .i64 a,.int .i64 b,.string t] w fun e w'=>e = .returned (reckV (some (truthI (decide (a ≠ 0) && decide (b ≠ 0))))) ∧ Below w.heap.size w w':=by
 have t0:(mAnd2.toList == [42]) = false:=lit_eq rfl rfl
 have t1:(mAnd2.toList == [47]) = false:=lit_eq rfl rfl
 have t2:(mAnd2.toList == [37]) = false:=lit_eq rfl rfl
 have t3:(mAnd2.toList == [43]) = false:=lit_eq rfl rfl
 have t4:(mAnd2.toList == [45]) = false:=lit_eq rfl rfl
 have t5:(mAnd2.toList == [60,60]) = false:=lit_eq rfl rfl
 have t6:(mAnd2.toList == [62,62]) = false:=lit_eq rfl rfl
 have t7:(mAnd2.toList == [60]) = false:=lit_eq rfl rfl
 have t8:(mAnd2.toList == [62]) = false:=lit_eq rfl rfl
 have t9:(mAnd2.toList == [60,61]) = false:=lit_eq rfl rfl
 have t10:(mAnd2.toList == [62,61]) = false:=lit_eq rfl rfl
 have t11:(mAnd2.toList == [61,61]) = false:=lit_eq rfl rfl
 have t12:(mAnd2.toList == [33,61]) = false:=lit_eq rfl rfl
 have t13:(mAnd2.toList == [38]) = false:=lit_eq rfl rfl
 have t14:(mAnd2.toList == [94]) = false:=lit_eq rfl rfl
 have t15:(mAnd2.toList == [124]) = false:=lit_eq rfl rfl
 have t16:(mAnd2.toList == [38,38]) = true:=lit_eq rfl rfl
 have HT:=Hd (show Calls Tryz.prog 41 #[.bool (b != 0)] w (fun e w'=>e = .returned (.int .i64 (truthI (decide (a ≠ 0) && decide (b ≠ 0)))) ∧ w' = w) from by rw [show (decide (a ≠ 0) && decide (b ≠ 0)) = (b != 0) by rw [bne_dec];simp [hz]];exact rtruth_ok (b != 0) w)
 have tz:(a != 0) = true:=by simpa using hz
 generalize truthI _ = r at *
 clear hz
 unfold reckV
 generalize mAnd2 = mk at *
 go_enter Tryz.func37,Tryz.ntmps37
 go_wp2_with (first | (go_at_call 41;(with_reducible refine HT.out.mono ?_);rintro e w1 ⟨rfl,hw⟩;subst w1))
 go_ret2
 exact ⟨rfl,Below.refl _ _⟩
set_option maxRecDepth 100000 in
theorem reck_either0 (a b:Int) (t:ByteArray) (w:World) (hz:a = 0):Calls Tryz.prog 37 #[.string mOr2,.int .i64 a,.int .i64 b,.string t] w fun e w'=>e = .returned (reckV (some (truthI (decide (a ≠ 0) || decide (b ≠ 0))))) ∧ Below w.heap.size w w':=by
 have t0:(mOr2.toList == [42]) = false:=lit_eq rfl rfl
 have t1:(mOr2.toList == [47]) = false:=lit_eq rfl rfl
 have t2:(mOr2.toList == [37]) = false:=lit_eq rfl rfl
 have t3:(mOr2.toList == [43]) = false:=lit_eq rfl rfl
 have t4:(mOr2.toList == [45]) = false:=lit_eq rfl rfl
 have t5:(mOr2.toList == [60,60]) = false:=lit_eq rfl rfl
 have t6:(mOr2.toList == [62,62]) = false:=lit_eq rfl rfl
 have t7:(mOr2.toList == [60]) = false:=lit_eq rfl rfl
 have t8:(mOr2.toList == [62]) = false:=lit_eq rfl rfl
 have t9:(mOr2.toList == [60,61]) = false:=lit_eq rfl rfl
 have t10:(mOr2.toList == [62,61]) = false:=lit_eq rfl rfl
 have t11:(mOr2.toList == [61,61]) = false:=lit_eq rfl rfl
 have t12:(mOr2.toList == [33,61]) = false:=lit_eq rfl rfl
 have t13:(mOr2.toList == [38]) = false:=lit_eq rfl rfl
 have t14:(mOr2.toList == [94]) = false:=lit_eq rfl rfl
 have t15:(mOr2.toList == [124]) = false:=lit_eq rfl rfl
 have t16:(mOr2.toList == [38,38]) = false:=lit_eq rfl rfl
 have HT:=Hd (show Calls Tryz.prog 41 #[.bool (b != 0)] w (fun e w'=>e = .returned (.int .i64 (truthI (decide (a ≠ 0) || decide (b ≠ 0)))) ∧ w' = w) from by rw [show (decide (a ≠ 0) || decide (b ≠ 0)) = (b != 0) by rw [bne_dec];simp [hz]];exact rtruth_ok (b != 0) w)
 have tz:(a != 0) = false:=by simpa using hz
 generalize truthI _ = r at *
 clear hz
 unfold reckV
 generalize mOr2 = mk at *
 go_enter Tryz.func37,Tryz.ntmps37
 go_wp2_with (first | (go_at_call 41;(with_reducible refine HT.out.mono ?_);rintro e w1 ⟨rfl,hw⟩;subst w1))
 go_ret2
 exact ⟨rfl,Below.refl _ _⟩
set_option maxRecDepth 100000 in
theorem reck_either1 (a b:Int) (t:ByteArray) (w:World) (hz:a ≠ 0):Calls Tryz.prog 37 #[.string mOr2,.int .i64 a,.int .i64 b,.string t] w fun e w'=>e = .returned (reckV (some (truthI (decide (a ≠ 0) || decide (b ≠ 0))))) ∧ Below w.heap.size w w':=by
 have t0:(mOr2.toList == [42]) = false:=lit_eq rfl rfl
 have t1:(mOr2.toList == [47]) = false:=lit_eq rfl rfl
 have t2:(mOr2.toList == [37]) = false:=lit_eq rfl rfl
 have t3:(mOr2.toList == [43]) = false:=lit_eq rfl rfl
 have t4:(mOr2.toList == [45]) = false:=lit_eq rfl rfl
 have t5:(mOr2.toList == [60,60]) = false:=lit_eq rfl rfl
 have t6:(mOr2.toList == [62,62]) = false:=lit_eq rfl rfl
 have t7:(mOr2.toList == [60]) = false:=lit_eq rfl rfl
 have t8:(mOr2.toList == [62]) = false:=lit_eq rfl rfl
 have t9:(mOr2.toList == [60,61]) = false:=lit_eq rfl rfl
 have t10:(mOr2.toList == [62,61]) = false:=lit_eq rfl rfl
 have t11:(mOr2.toList == [61,61]) = false:=lit_eq rfl rfl
 have t12:(mOr2.toList == [33,61]) = false:=lit_eq rfl rfl
 have t13:(mOr2.toList == [38]) = false:=lit_eq rfl rfl
 have t14:(mOr2.toList == [94]) = false:=lit_eq rfl rfl
 have t15:(mOr2.toList == [124]) = false:=lit_eq rfl rfl
 have t16:(mOr2.toList == [38,38]) = false:=lit_eq rfl rfl
 have HT:=Hd (show Calls Tryz.prog 41 #[.bool true] w (fun e w'=>e = .returned (.int .i64 (truthI (decide (a ≠ 0) || decide (b ≠ 0)))) ∧ w' = w) from by rw [show (decide (a ≠ 0) || decide (b ≠ 0)) = true by simp [hz]];exact rtruth_ok true w)
 have tz:(a != 0) = true:=by simpa using hz
 generalize truthI _ = r at *
 clear hz
 unfold reckV
 generalize mOr2 = mk at *
 go_enter Tryz.func37,Tryz.ntmps37
 go_wp2_with (first | (go_at_call 41;(with_reducible refine HT.out.mono ?_);rintro e w1 ⟨rfl,hw⟩;subst w1))
 go_ret2
 exact ⟨rfl,Below.refl _ _⟩
end Go.Proofs.YtlcfejgjeljjdaaGreatDoor
