/- What the reference reckons is what the program reckons · Operations on numbers of any types: the program. · Words, numbers of types: the reference. · What numbers come to, as the package offers it: the program -/
import Derived.Test.YtlcfejgjeljjdaaGreatDoorMg8
import Derived.Laws.BitsLemmas
import Derived.Test.YtlcfejgjeljjdaaGreatDoorFoldB3
import Derived.Test.YtlcfejgjeljjdaaGreatDoorMg9
namespace Go.Proofs.YtlcfejgjeljjdaaGreatDoor
open Go.RowKit
theorem bytes_of {s:ByteArray} {x:ByteArray} (h:s.data.toList = x.data.toList):s = x:=by
 cases s;cases x;simp only [Array.toList_inj] at h;rw [h]
theorem toNat_low (x:Int):(BitVec.ofInt 64 x).toNat % 4294967296 = (BitVec.ofInt 32 (x % 4294967296)).toNat:=by
 rw [BitVec.toNat_ofInt,BitVec.toNat_ofInt]
 omega
theorem wrap_low (n:Nat):IntKind.i64.wrap (n:Int) % 4294967296 = ((n % 4294967296:Nat):Int):=by
 rw [IntKind.wrap_i64];omega
theorem wrap_u32n (n:Nat) (h:n < 4294967296):IntKind.u32.wrap (n:Int) = (n:Int):=by rw [IntKind.wrap_u32];omega
theorem and_low (a b:Int):bits .and .i64 a b % 4294967296 = bits .and .u32 (a % 4294967296) (b % 4294967296):=by
 show IntKind.i64.wrap ((BitVec.ofInt 64 a &&& BitVec.ofInt 64 b).toNat:Int) % 4294967296 = IntKind.u32.wrap ((BitVec.ofInt 32 (a % 4294967296) &&& BitVec.ofInt 32 (b % 4294967296)).toNat:Int)
 rw [wrap_low,wrap_u32n _ (BitVec.isLt _),BitVec.toNat_and,BitVec.toNat_and,← toNat_low,← toNat_low,show 4294967296 = 2 ^ 32 from rfl,Nat.and_mod_two_pow]
theorem or_low (a b:Int):bits .or .i64 a b % 4294967296 = bits .or .u32 (a % 4294967296) (b % 4294967296):=by
 show IntKind.i64.wrap ((BitVec.ofInt 64 a ||| BitVec.ofInt 64 b).toNat:Int) % 4294967296 = IntKind.u32.wrap ((BitVec.ofInt 32 (a % 4294967296) ||| BitVec.ofInt 32 (b % 4294967296)).toNat:Int)
 rw [wrap_low,wrap_u32n _ (BitVec.isLt _),BitVec.toNat_or,BitVec.toNat_or,← toNat_low,← toNat_low,show 4294967296 = 2 ^ 32 from rfl,Nat.or_mod_two_pow]
theorem xor_low (a b:Int):bits .xor .i64 a b % 4294967296 = bits .xor .u32 (a % 4294967296) (b % 4294967296):=by
 show IntKind.i64.wrap ((BitVec.ofInt 64 a ^^^ BitVec.ofInt 64 b).toNat:Int) % 4294967296 = IntKind.u32.wrap ((BitVec.ofInt 32 (a % 4294967296) ^^^ BitVec.ofInt 32 (b % 4294967296)).toNat:Int)
 rw [wrap_low,wrap_u32n _ (BitVec.isLt _),BitVec.toNat_xor,BitVec.toNat_xor,← toNat_low,← toNat_low,show 4294967296 = 2 ^ 32 from rfl,Nat.xor_mod_two_pow]
theorem asI_and (a b:Int) (t:ByteArray):asI (bits .and .u32 (a % 4294967296) (b % 4294967296)) t = asI (bits .and .i64 a b) t:=by rw [← and_low];exact asI_mod (Int.emod_emod_of_dvd _ (Int.dvd_refl _)) t
theorem asI_or (a b:Int) (t:ByteArray):asI (bits .or .u32 (a % 4294967296) (b % 4294967296)) t = asI (bits .or .i64 a b) t:=by rw [← or_low];exact asI_mod (Int.emod_emod_of_dvd _ (Int.dvd_refl _)) t
theorem asI_xor (a b:Int) (t:ByteArray):asI (bits .xor .u32 (a % 4294967296) (b % 4294967296)) t = asI (bits .xor .i64 a b) t:=by rw [← xor_low];exact asI_mod (Int.emod_emod_of_dvd _ (Int.dvd_refl _)) t
def binMarks:List ByteArray:=[mMul,mDiv,mRem,mAdd,mSub,mShl,mShr,mLt,mGt,mLe,mGe,mEq,mNe,mAnd,mXor,mOr,mAnd2,mOr2]
def unMarks:List ByteArray:=[mSub,mCpl,mNot]
def binE (m:ByteArray) (a:Int) (x:ByteArray) (b:Int) (y:ByteArray):Int × ByteArray × Int:=
 if Lib.containsS binMarks m = false then (0,⟨#[]⟩,2)
 else if isIntS x = false ∨ isIntS y = false then (0,⟨#[]⟩,5)
 else match binI m x (asI a x) y (asI b y) with
  | none=>(0,⟨#[]⟩,120)
  | some v=>(v.2,v.1,0)
def unE (m:ByteArray) (a:Int) (x:ByteArray):Int × ByteArray × Int:=
 if Lib.containsS unMarks m = false then (0,⟨#[]⟩,2)
 else if isIntS x = false then (0,⟨#[]⟩,5)
 else match unI m x (asI a x) with
  | none=>(0,⟨#[]⟩,0)
  | some v=>(v.2,v.1,0)
def convE (a:Int) (x:ByteArray):Int × Int:=if isIntS x = false then (0,5) else (asI a x,0)
end Go.Proofs.YtlcfejgjeljjdaaGreatDoor
namespace Go.Proofs.YtlcfejgjeljjdaaGreatDoor
open Go.RowKit
def numR:Option Num → Value
 | some v=>.tuple #[numV v,.bool true]
 | none=>.tuple #[numV (⟨#[]⟩,0),.bool false]
theorem mono_ret {F:FuncId} {xs:Array Value} {w:World} {u v:Value} (h:Calls Tryz.prog F xs w fun e w'=>e = .returned u ∧ Below w.heap.size w w') (e:u = v):Calls Tryz.prog F xs w fun e w'=>e = .returned v ∧ Below w.heap.size w w':=e ▸ h
theorem mem_bin {m:ByteArray} (h:Lib.containsS binMarks m = true):m = mMul ∨ m = mDiv ∨ m = mRem ∨ m = mAdd ∨ m = mSub ∨ m = mShl ∨ m = mShr ∨ m = mLt ∨ m = mGt ∨ m = mLe ∨ m = mGe ∨ m = mEq ∨ m = mNe ∨ m = mAnd ∨ m = mXor ∨ m = mOr ∨ m = mAnd2 ∨ m = mOr2:=by
 have h:=(Lib.containsS_iff _ _).1 h
 simpa [binMarks] using h
theorem mem_un {m:ByteArray} (h:Lib.containsS unMarks m = true):m = mSub ∨ m = mCpl ∨ m = mNot:=by
 have h:=(Lib.containsS_iff _ _).1 h
 simpa [unMarks] using h
theorem beq_dec (a b:Int):(a == b) = decide (a = b):=by rw [Bool.eq_iff_iff];simp
theorem bne_dec (a b:Int):(a != b) = decide (a ≠ b):=by rw [Bool.eq_iff_iff];simp
theorem binary_ok (m:ByteArray) (hm:Lib.containsS binMarks m = true) (x y:Num) (hx:IntT x.1) (hy:IntT y.1) (w:World) (hE:TE w) :
 Calls Tryz.prog 29 #[.string m,numV x,numV y] w fun e w'=>e = .returned (numR (binI m x.1 x.2 y.1 y.2)) ∧ Below w.heap.size w w':=by
 rcases mem_bin hm with h | h | h | h | h | h | h | h | h | h | h | h | h | h | h | h | h | h <;> subst h <;> clear hm
 ·exact mono_ret (binary_mul x y hx hy w hE) rfl
 ·by_cases hz:asI y.2 (commI x.1 y.1) = 0
  ·refine mono_ret (binary_div0 x y hx hy hz w hE) ?_
   have:binI mDiv x.1 x.2 y.1 y.2 = (if asI y.2 (commI x.1 y.1) = 0 then none else some ((asI x.2 (commI x.1 y.1)).tdiv (asI y.2 (commI x.1 y.1)))).map fun n=>(commI x.1 y.1,asI n (commI x.1 y.1)):=rfl
   rw [this,if_pos hz];rfl
  ·refine mono_ret (binary_div1 x y hx hy hz w hE) ?_
   have:binI mDiv x.1 x.2 y.1 y.2 = (if asI y.2 (commI x.1 y.1) = 0 then none else some ((asI x.2 (commI x.1 y.1)).tdiv (asI y.2 (commI x.1 y.1)))).map fun n=>(commI x.1 y.1,asI n (commI x.1 y.1)):=rfl
   rw [this,if_neg hz];rfl
 ·by_cases hz:asI y.2 (commI x.1 y.1) = 0
  ·refine mono_ret (binary_rem0 x y hx hy hz w hE) ?_
   have:binI mRem x.1 x.2 y.1 y.2 = (if asI y.2 (commI x.1 y.1) = 0 then none else some ((asI x.2 (commI x.1 y.1)).tmod (asI y.2 (commI x.1 y.1)))).map fun n=>(commI x.1 y.1,asI n (commI x.1 y.1)):=rfl
   rw [this,if_pos hz];rfl
  ·refine mono_ret (binary_rem1 x y hx hy hz w hE) ?_
   have:binI mRem x.1 x.2 y.1 y.2 = (if asI y.2 (commI x.1 y.1) = 0 then none else some ((asI x.2 (commI x.1 y.1)).tmod (asI y.2 (commI x.1 y.1)))).map fun n=>(commI x.1 y.1,asI n (commI x.1 y.1)):=rfl
   rw [this,if_neg hz];rfl
 ·exact mono_ret (binary_add x y hx hy w hE) rfl
 ·exact mono_ret (binary_sub x y hx hy w hE) rfl
 ·exact mono_ret (binary_shl x y hx w hE) rfl
 ·rcases promI_ui x.1 with hp | hp
  ·refine mono_ret (binary_shru x y hx hp w hE) ?_
   show numR (some (promI x.1,asI (shruW (asI x.2 (promI x.1)) y.2) (promI x.1))) = numR (some (promI x.1,asI (if promI x.1 = iText12 then shrsW (asI x.2 (promI x.1)) y.2 else shruW (asI x.2 (promI x.1)) y.2) (promI x.1)))
   rw [if_neg (by rw [hp];decide)]
  ·refine mono_ret (binary_shrs x y hx hp w hE) ?_
   show numR (some (promI x.1,asI (shrsW (asI x.2 (promI x.1)) y.2) (promI x.1))) = numR (some (promI x.1,asI (if promI x.1 = iText12 then shrsW (asI x.2 (promI x.1)) y.2 else shruW (asI x.2 (promI x.1)) y.2) (promI x.1)))
   rw [if_pos hp]
 ·exact mono_ret (binary_lt x y hx hy w hE) rfl
 ·exact mono_ret (binary_gt x y hx hy w hE) rfl
 ·exact mono_ret (binary_le x y hx hy w hE) rfl
 ·exact mono_ret (binary_ge x y hx hy w hE) rfl
 ·refine mono_ret (binary_eq x y hx hy w hE) ?_
  rw [beq_dec];rfl
 ·refine mono_ret (binary_ne x y hx hy w hE) ?_
  rw [bne_dec];rfl
 ·exact mono_ret (binary_and x y hx hy w hE) rfl
 ·exact mono_ret (binary_xor x y hx hy w hE) rfl
 ·exact mono_ret (binary_or x y hx hy w hE) rfl
 ·by_cases hz:x.2 = 0
  ·exact mono_ret (binary_both0 x y hz w) rfl
  ·exact mono_ret (binary_both1 x y hz w) rfl
 ·by_cases hz:x.2 = 0
  ·exact mono_ret (binary_either0 x y hz w) rfl
  ·exact mono_ret (binary_either1 x y hz w) rfl
theorem unary_ok (m:ByteArray) (hm:Lib.containsS unMarks m = true) (x:Num) (hx:IntT x.1) (w:World) (hE:TE w) :
 Calls Tryz.prog 39 #[.string m,numV x] w fun e w'=>e = .returned (numR (unI m x.1 x.2)) ∧ Below w.heap.size w w':=by
 rcases mem_un hm with h | h | h <;> subst h <;> clear hm
 ·exact mono_ret (unary_neg x hx w hE) rfl
 ·exact mono_ret (unary_cpl x hx w hE) rfl
 ·exact mono_ret (unary_not x w) rfl
theorem unI_some {m x:ByteArray} {a:Int} (hm:Lib.containsS unMarks m = true):∃ v,unI m x a = some v:=by
 rcases mem_un hm with h | h | h <;> subst h <;> exact ⟨_,rfl⟩
end Go.Proofs.YtlcfejgjeljjdaaGreatDoor
namespace Go.Proofs.YtlcfejgjeljjdaaGreatDoor
open Go.RowKit
theorem retU2 {a b:Int} (c:Int) (h:a = b):Ending.returned (.tuple #[.int .u32 a,.int .i64 c]) = .returned (.tuple #[.int .u32 b,.int .i64 c]):=by rw [h]
theorem rof_ok (n:Int) (w:World):Calls Tryz.prog 64 #[.int .i64 n] w fun e w'=>e = .returned (.int .u32 (n % 4294967296)) ∧ w' = w:=by
 go_enter Tryz.func64,Tryz.ntmps64
 go_wp2_with fail
 go_ret
 exact ⟨rfl,rfl⟩
theorem rsigned_ok (x:Int) (w:World) (h:0 ≤ x ∧ x < 4294967296):Calls Tryz.prog 66 #[.int .u32 x] w fun e w'=>e = .returned (.int .i64 (sgnI 32 x)) ∧ w' = w:=by
 have e1:IntKind.i64.wrap x = x:=by rw [IntKind.wrap_i64];omega
 have e2:IntKind.i64.wrap (x - 4294967296) = x - 4294967296:=by rw [IntKind.wrap_i64];omega
 by_cases hl:x < 2147483648
 ·have t1:decide (x < 2147483648) = true:=by simpa using hl
  have hv:=Hd (show x = sgnI 32 x by rw [sgn32];omega)
  clear hl
  go_enter Tryz.func66,Tryz.ntmps66
  go_wp2_with fail
  go_ret
  exact ⟨retI hv.out,rfl⟩
 ·have t1:decide (x < 2147483648) = false:=by simpa using hl
  have hv:=Hd (show x - 4294967296 = sgnI 32 x by rw [sgn32];omega)
  clear hl
  go_enter Tryz.func66,Tryz.ntmps66
  go_wp2_with fail
  go_ret
  exact ⟨retI hv.out,rfl⟩
theorem rzext8_ok (x:Int) (w:World) (h:0 ≤ x ∧ x < 4294967296):Calls Tryz.prog 91 #[.int .u32 x,.int .i64 8] w fun e w'=>e = .returned (.tuple #[.int .u32 (x % 256),.int .i64 0]) ∧ w' = w:=by
 go_enter Tryz.func91,Tryz.ntmps91
 go_wp2_with fail
 go_ret2
 exact ⟨rfl,rfl⟩
theorem rzext16_ok (x:Int) (w:World) (h:0 ≤ x ∧ x < 4294967296):Calls Tryz.prog 91 #[.int .u32 x,.int .i64 16] w fun e w'=>e = .returned (.tuple #[.int .u32 (x % 65536),.int .i64 0]) ∧ w' = w:=by
 go_enter Tryz.func91,Tryz.ntmps91
 go_wp2_with fail
 go_ret2
 exact ⟨rfl,rfl⟩
theorem rext8_ok (x:Int) (w:World) (h:0 ≤ x ∧ x < 4294967296):Calls Tryz.prog 65 #[.int .u32 x,.int .i64 8] w fun e w'=>e = .returned (.tuple #[.int .u32 (sgnI 8 x % 4294967296),.int .i64 0]) ∧ w' = w:=by
 have HZ:=Hd (rzext8_ok x w h)
 have hO:=fun n=>rof_ok n w
 by_cases hl:x % 256 < 128
 ·have hv:=Hd (show x % 256 = sgnI 8 x % 4294967296 by rw [sgn8];omega)
  have hz:0 ≤ x % 256 ∧ x % 256 < 4294967296:=by omega
  generalize x % 256 = z at *
  have t1:decide (z < 128) = true:=by simpa using hl
  clear hl hO
  go_enter Tryz.func65,Tryz.ntmps65
  go_wp2_with (go_at_call 91;(with_reducible refine HZ.out.mono ?_);rintro e w1 ⟨rfl,hw⟩;subst w1)
  go_ret2
  exact ⟨retU2 _ hv.out,rfl⟩
 ·have hv:=Hd (show (x % 256 - 256) % 4294967296 = sgnI 8 x % 4294967296 by rw [sgn8];omega)
  have hz:0 ≤ x % 256 ∧ x % 256 < 4294967296:=by omega
  generalize x % 256 = z at *
  have t1:decide (z < 128) = false:=by simpa using hl
  have e1:IntKind.i64.wrap z = z:=by rw [IntKind.wrap_i64];omega
  have e2:IntKind.i64.wrap (z - 256) = z - 256:=by rw [IntKind.wrap_i64];omega
  have HO:=Hd (hO (z - 256))
  clear hl hO
  go_enter Tryz.func65,Tryz.ntmps65
  go_wp2_with (first | (go_at_call 91;(with_reducible refine HZ.out.mono ?_);rintro e w1 ⟨rfl,hw⟩;subst w1) | (go_at_call 64;(with_reducible refine HO.out.mono ?_);rintro e w1 ⟨rfl,hw⟩;subst w1))
  go_ret2
  exact ⟨retU2 _ hv.out,rfl⟩
theorem rext16_ok (x:Int) (w:World) (h:0 ≤ x ∧ x < 4294967296):Calls Tryz.prog 65 #[.int .u32 x,.int .i64 16] w fun e w'=>e = .returned (.tuple #[.int .u32 (sgnI 16 x % 4294967296),.int .i64 0]) ∧ w' = w:=by
 have HZ:=Hd (rzext16_ok x w h)
 have hO:=fun n=>rof_ok n w
 by_cases hl:x % 65536 < 32768
 ·have hv:=Hd (show x % 65536 = sgnI 16 x % 4294967296 by rw [sgn16];omega)
  have hz:0 ≤ x % 65536 ∧ x % 65536 < 4294967296:=by omega
  generalize x % 65536 = z at *
  have t1:decide (z < 32768) = true:=by simpa using hl
  clear hl hO
  go_enter Tryz.func65,Tryz.ntmps65
  go_wp2_with (go_at_call 91;(with_reducible refine HZ.out.mono ?_);rintro e w1 ⟨rfl,hw⟩;subst w1)
  go_ret2
  exact ⟨retU2 _ hv.out,rfl⟩
 ·have hv:=Hd (show (x % 65536 - 65536) % 4294967296 = sgnI 16 x % 4294967296 by rw [sgn16];omega)
  have hz:0 ≤ x % 65536 ∧ x % 65536 < 4294967296:=by omega
  generalize x % 65536 = z at *
  have t1:decide (z < 32768) = false:=by simpa using hl
  have e1:IntKind.i64.wrap z = z:=by rw [IntKind.wrap_i64];omega
  have e2:IntKind.i64.wrap (z - 65536) = z - 65536:=by rw [IntKind.wrap_i64];omega
  have HO:=Hd (hO (z - 65536))
  clear hl hO
  go_enter Tryz.func65,Tryz.ntmps65
  go_wp2_with (first | (go_at_call 91;(with_reducible refine HZ.out.mono ?_);rintro e w1 ⟨rfl,hw⟩;subst w1) | (go_at_call 64;(with_reducible refine HO.out.mono ?_);rintro e w1 ⟨rfl,hw⟩;subst w1))
  go_ret2
  exact ⟨retU2 _ hv.out,rfl⟩
theorem ras_ok (n:Int) (t:ByteArray) (w:World):Calls Tryz.prog 34 #[.int .i64 n,.string t] w fun e w'=>e = .returned (.int .i64 (asI n t)) ∧ w' = w:=by
 have hm:0 ≤ n % 4294967296 ∧ n % 4294967296 < 4294967296:=by omega
 have H1:=Hd (rof_ok n w)
 by_cases hc:t = cText12
 ·have hu:t ≠ uText12:=by rw [hc];decide
  have t1:(t.toList == [99]) = true:=by rw [str_one];exact decide_eq_true hc
  have t2:(t.toList == [115]) = false:=by rw [str_one,hc];decide
  have t3:(t.toList == [117]) = false:=by rw [str_one];exact decide_eq_false hu
  have hv:=Hd (show sgnI 32 (sgnI 8 (n % 4294967296) % 4294967296) = asI n t by rw [asI_through (.inl rfl)];unfold asI;rw [if_neg hu,if_pos hc])
  have H2:=Hd (rext8_ok (n % 4294967296) w hm)
  have H3:=Hd (rsigned_ok (sgnI 8 (n % 4294967296) % 4294967296) w (by omega))
  clear hu hc
  go_enter Tryz.func34,Tryz.ntmps34
  go_wp2_with (first | (go_at_call 64;(with_reducible refine H1.out.mono ?_);rintro e w1 ⟨rfl,hw⟩;subst w1) | (go_at_call 65;(with_reducible refine H2.out.mono ?_);rintro e w1 ⟨rfl,hw⟩;subst w1) | (go_at_call 66;(with_reducible refine H3.out.mono ?_);rintro e w1 ⟨rfl,hw⟩;subst w1))
  go_ret
  exact ⟨retI hv.out,rfl⟩
 have t1:(t.toList == [99]) = false:=by rw [str_one];exact decide_eq_false hc
 by_cases hs:t = sText12
 ·have hu:t ≠ uText12:=by rw [hs];decide
  have t2:(t.toList == [115]) = true:=by rw [str_one];exact decide_eq_true hs
  have t3:(t.toList == [117]) = false:=by rw [str_one];exact decide_eq_false hu
  have hv:=Hd (show sgnI 32 (sgnI 16 (n % 4294967296) % 4294967296) = asI n t by rw [asI_through (.inr (.inl rfl))];unfold asI;rw [if_neg hu,if_neg hc,if_pos hs])
  have H2:=Hd (rext16_ok (n % 4294967296) w hm)
  have H3:=Hd (rsigned_ok (sgnI 16 (n % 4294967296) % 4294967296) w (by omega))
  clear hu hc hs
  go_enter Tryz.func34,Tryz.ntmps34
  go_wp2_with (first | (go_at_call 64;(with_reducible refine H1.out.mono ?_);rintro e w1 ⟨rfl,hw⟩;subst w1) | (go_at_call 65;(with_reducible refine H2.out.mono ?_);rintro e w1 ⟨rfl,hw⟩;subst w1) | (go_at_call 66;(with_reducible refine H3.out.mono ?_);rintro e w1 ⟨rfl,hw⟩;subst w1))
  go_ret
  exact ⟨retI hv.out,rfl⟩
 have t2:(t.toList == [115]) = false:=by rw [str_one];exact decide_eq_false hs
 by_cases hu:t = uText12
 ·have t3:(t.toList == [117]) = true:=by rw [str_one];exact decide_eq_true hu
  have hv:=Hd (show n % 4294967296 = asI n t by unfold asI;rw [if_pos hu])
  clear hu hc hs
  go_enter Tryz.func34,Tryz.ntmps34
  go_wp2_with (go_at_call 64;(with_reducible refine H1.out.mono ?_);rintro e w1 ⟨rfl,hw⟩;subst w1)
  go_ret
  exact ⟨retI hv.out,rfl⟩
 ·have t3:(t.toList == [117]) = false:=by rw [str_one];exact decide_eq_false hu
  have hv:=Hd (show sgnI 32 (n % 4294967296) = asI n t by unfold asI;rw [if_neg hu,if_neg hc,if_neg hs,sgn32,sgn32];omega)
  have H3:=Hd (rsigned_ok (n % 4294967296) w hm)
  clear hu hc hs
  go_enter Tryz.func34,Tryz.ntmps34
  go_wp2_with (first | (go_at_call 64;(with_reducible refine H1.out.mono ?_);rintro e w1 ⟨rfl,hw⟩;subst w1) | (go_at_call 66;(with_reducible refine H3.out.mono ?_);rintro e w1 ⟨rfl,hw⟩;subst w1))
  go_ret
  exact ⟨retI hv.out,rfl⟩
theorem rtruth_ok (b:Bool) (w:World):Calls Tryz.prog 41 #[.bool b] w fun e w'=>e = .returned (.int .i64 (truthI b)) ∧ w' = w:=by
 cases b
 ·go_enter Tryz.func41,Tryz.ntmps41
  go_wp2_with fail
  go_ret
  exact ⟨rfl,rfl⟩
 ·go_enter Tryz.func41,Tryz.ntmps41
  go_wp2_with fail
  go_ret
  exact ⟨rfl,rfl⟩
theorem rshl_ok (x y:Int) (w:World) (h:0 ≤ x ∧ x < 4294967296) (h2:0 ≤ y ∧ y < 4294967296):Calls Tryz.prog 69 #[.int .u32 x,.int .u32 y] w fun e w'=>e = .returned (.int .u32 (shlW x y)) ∧ w' = w:=by
 have h3:0 ≤ y % 32 ∧ y % 32 ≤ 32:=by omega
 have hv:=Hd (show x * 2 ^ (y % 32).toNat % 4294967296 = shlW x y by unfold shlW;rw [mod_word h,mod_word h2])
 go_enter Tryz.func69,Tryz.ntmps69
 go_wp2_with fail
 go_ret
 exact ⟨retU hv.out,rfl⟩
theorem rshru_ok (x y:Int) (w:World) (h:0 ≤ x ∧ x < 4294967296) (h2:0 ≤ y ∧ y < 4294967296):Calls Tryz.prog 70 #[.int .u32 x,.int .u32 y] w fun e w'=>e = .returned (.int .u32 (shruW x y)) ∧ w' = w:=by
 have h3:0 ≤ y % 32 ∧ y % 32 ≤ 32:=by omega
 have hv:=Hd (show x / 2 ^ (y % 32).toNat = shruW x y by unfold shruW;rw [mod_word h,mod_word h2])
 go_enter Tryz.func70,Tryz.ntmps70
 go_wp2_with fail
 go_ret
 exact ⟨retU hv.out,rfl⟩
theorem rshr_ok (x y:Int) (w:World) (h:0 ≤ x ∧ x < 4294967296) (h2:0 ≤ y ∧ y < 4294967296):Calls Tryz.prog 71 #[.int .u32 x,.int .u32 y] w fun e w'=>e = .returned (.int .u32 (shrsW x y)) ∧ w' = w:=by
 have h3:0 ≤ y % 32 ∧ y % 32 ≤ 32:=by omega
 have hr:=sgn32_range x
 have HS:=Hd (rsigned_ok x w h)
 have HO:=Hd (fun n=>rof_ok n w)
 have hv:=Hd (show sgnI 32 x / 2 ^ (y % 32).toNat % 4294967296 = shrsW x y by unfold shrsW;rw [mod_word h2])
 generalize sgnI 32 x = s at *
 go_enter Tryz.func71,Tryz.ntmps71
 go_wp2_with (first | (go_at_call 64;(with_reducible refine (HO.out _).mono ?_);rintro e w1 ⟨rfl,hw⟩;subst w1) | (go_at_call 66;(with_reducible refine HS.out.mono ?_);rintro e w1 ⟨rfl,hw⟩;subst w1))
 go_ret
 exact ⟨retU hv.out,rfl⟩
theorem tdiv_bd {a b:Int} (h:-2147483648 ≤ a ∧ a < 2147483648):-2147483648 ≤ a.tdiv b ∧ a.tdiv b ≤ 2147483648:=by
 have h1:(a.tdiv b).natAbs ≤ a.natAbs:=by rw [Int.natAbs_tdiv];exact Nat.div_le_self _ _
 omega
theorem tmod_bd {a b:Int} (h:-2147483648 ≤ a ∧ a < 2147483648):-2147483648 ≤ a.tmod b ∧ a.tmod b ≤ 2147483648:=by
 have h1:(a.tmod b).natAbs ≤ a.natAbs:=by rw [Int.natAbs_tmod];exact Nat.mod_le _ _
 omega
def divW (x y:Int):Int × Int × Bool:=if y = 0 then (0,0,false) else ((sgnI 32 x).tdiv (sgnI 32 y) % 4294967296,(sgnI 32 x).tmod (sgnI 32 y) % 4294967296,true)
theorem rdiv_ok (x y:Int) (w:World) (h:0 ≤ x ∧ x < 4294967296) (h2:0 ≤ y ∧ y < 4294967296):Calls Tryz.prog 94 #[.int .u32 x,.int .u32 y] w fun e w'=>e = .returned (.tuple #[.int .u32 (divW x y).1,.int .u32 (divW x y).2.1,.bool (divW x y).2.2]) ∧ w' = w:=by
 unfold divW
 by_cases hy:y = 0
 ·rw [if_pos hy]
  subst hy
  go_enter Tryz.func94,Tryz.ntmps94
  go_wp2_with fail
  go_ret3
  exact ⟨rfl,rfl⟩
 ·rw [if_neg hy]
  have t1:(y == 0) = false:=by simpa using hy
  have hs:sgnI 32 y ≠ 0:=by rw [sgn32];omega
  have hr:=sgn32_range x
  have hr2:=sgn32_range y
  have HS1:=Hd (rsigned_ok x w h)
  have HS2:=Hd (rsigned_ok y w h2)
  have HO:=Hd (fun n=>rof_ok n w)
  generalize sgnI 32 x = a at *
  generalize sgnI 32 y = b at *
  have t2:(b == 0) = false:=by simpa using hs
  have d1:=tdiv_bd (b:=b) hr
  have d2:=tmod_bd (b:=b) hr
  have w1:IntKind.i64.wrap (a.tdiv b) = a.tdiv b:=by rw [IntKind.wrap_i64];omega
  have w2:IntKind.i64.wrap (a.tmod b) = a.tmod b:=by rw [IntKind.wrap_i64];omega
  clear hy
  go_enter Tryz.func94,Tryz.ntmps94
  go_wp2_with (first | (go_at_call 64;(with_reducible refine (HO.out _).mono ?_);rintro e w1 ⟨rfl,hw⟩;subst w1) | (go_at_call 66;(first | (with_reducible refine HS1.out.mono ?_) | (with_reducible refine HS2.out.mono ?_));rintro e w1 ⟨rfl,hw⟩;subst w1))
  go_ret3
  exact ⟨rfl,rfl⟩
def divuW (x y:Int):Int × Int × Bool:=if y = 0 then (0,0,false) else (x / y,x % y,true)
theorem rdivu_ok (x y:Int) (w:World) (h:0 ≤ x ∧ x < 4294967296) (h2:0 ≤ y ∧ y < 4294967296):Calls Tryz.prog 93 #[.int .u32 x,.int .u32 y] w fun e w'=>e = .returned (.tuple #[.int .u32 (divuW x y).1,.int .u32 (divuW x y).2.1,.bool (divuW x y).2.2]) ∧ Below w.heap.size w w':=by
 unfold divuW
 by_cases hy:y = 0
 ·rw [if_pos hy]
  subst hy
  go_enter Tryz.func93,Tryz.ntmps93
  go_wp2_with fail
  go_ret3
  exact ⟨rfl,Below.refl _ _⟩
 ·rw [if_neg hy]
  have t1:(y == 0) = false:=by simpa using hy
  have hq:0 ≤ x / y ∧ x / y < 4294967296:=⟨Int.ediv_nonneg h.1 h2.1,Int.lt_of_le_of_lt (Int.ediv_le_self _ h.1) h.2⟩
  have hq2:0 ≤ x % y ∧ x % y < 4294967296:=⟨Int.emod_nonneg _ hy,by have:=Int.emod_lt_of_pos x (show 0 < y by omega);omega⟩
  have e1:x.tdiv y = x / y:=Int.tdiv_eq_ediv_of_nonneg h.1
  have e2:x.tmod y = x % y:=Int.tmod_eq_emod_of_nonneg h.1
  have hy0:0 < y:=by omega
  clear hy
  go_enter Tryz.func93,Tryz.ntmps93
  go_upto_region 3 with fail
  go_quiet (fail)
  go_wp2_with fail
  go_ret3
  exact ⟨rfl,Below.drewN' _ _⟩
end Go.Proofs.YtlcfejgjeljjdaaGreatDoor
namespace Go.Proofs.YtlcfejgjeljjdaaGreatDoor
open Go.RowKit
theorem convert_ok (n:Int) (t:ByteArray) (w:World):Calls Tryz.prog 17 #[.int .i64 n,.string t] w fun e w'=>e = .returned (.tuple #[.int .i64 (convE n t).1,.int .i64 (convE n t).2]) ∧ w' = w:=by
 have HI:=Hd (isInt_ok t w)
 have HA:=Hd (as_ok n t w)
 unfold convE
 rcases hb:isIntS t with _ | _
 ·rw [hb] at HI
  rw [if_pos rfl]
  clear hb
  go_enter Tryz.func17,Tryz.ntmps17
  go_wp2_with (go_at_call 28;(with_reducible refine HI.out.mono ?_);rintro e w3 ⟨rfl,rfl⟩)
  go_ret2
  exact ⟨rfl,rfl⟩
 ·rw [hb] at HI
  rw [if_neg (by simp)]
  clear hb
  generalize asI n t = r at *
  go_enter Tryz.func17,Tryz.ntmps17
  go_wp2_with (first | (go_at_call 28;(with_reducible refine HI.out.mono ?_);rintro e w3 ⟨rfl,hw3⟩;subst w3) | (go_at_call 30;(with_reducible refine HA.out.mono ?_);rintro e w4 ⟨rfl,hw4⟩;subst w4))
  go_ret2
  exact ⟨rfl,rfl⟩
def trip (x:Int × ByteArray × Int):Value:=.tuple #[.int .i64 x.1,.string x.2.1,.int .i64 x.2.2]
end Go.Proofs.YtlcfejgjeljjdaaGreatDoor
