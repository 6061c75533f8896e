/- What trees come to: their types, their numbers. Plain: nothing of the program. · Words, numbers of types: the program. · An argument that is a slice, opened by its elements. · Nodes in the world: a node by value, a list of nodes. -/
import Derived.Test.YtlcfejgjeljjdaaGreatDoorMg6
import Derived.Test.YtlcfejgjeljjdaaGreatDoorMg8
import Derived.Test.YtlcfejgjeljjdaaGreatDoorMg14
import Derived.Test.YtlcfejgjeljjdaaGreatDoorChecked
import Derived.Test.YtlcfejgjeljjdaaGreatDoorMg1
import Derived.Deep.Slices
import Derived.ProofKit
import Derived.OpenShut
import Derived.Test.YtlcfejgjeljjdaaGreatDoorMg7
import Derived.SizedLaws
namespace Go.Proofs.YtlcfejgjeljjdaaGreatDoor
open Go.Op

def truthI (b : Bool) : Int := if b then 1 else 0
def shlW (a y : Int) : Int := (a % 4294967296) * 2 ^ ((y % 4294967296) % 32).toNat % 4294967296
def shruW (a y : Int) : Int := (a % 4294967296) / 2 ^ ((y % 4294967296) % 32).toNat
def shrsW (a y : Int) : Int := (sgnI 32 a / 2 ^ ((y % 4294967296) % 32).toNat) % 4294967296
def mAnd2 : ByteArray := ⟨#[38, 38]⟩
def mOr2 : ByteArray := ⟨#[124, 124]⟩
def mShl : ByteArray := ⟨#[60, 60]⟩
def mShr : ByteArray := ⟨#[62, 62]⟩
def mMul : ByteArray := ⟨#[42]⟩
def mDiv : ByteArray := ⟨#[47]⟩
def mRem : ByteArray := ⟨#[37]⟩
def mAdd : ByteArray := ⟨#[43]⟩
def mSub : ByteArray := ⟨#[45]⟩
def mLt : ByteArray := ⟨#[60]⟩
def mGt : ByteArray := ⟨#[62]⟩
def mLe : ByteArray := ⟨#[60, 61]⟩
def mGe : ByteArray := ⟨#[62, 61]⟩
def mEq : ByteArray := ⟨#[61, 61]⟩
def mNe : ByteArray := ⟨#[33, 61]⟩
def mAnd : ByteArray := ⟨#[38]⟩
def mXor : ByteArray := ⟨#[94]⟩
def mOr : ByteArray := ⟨#[124]⟩
def mNot : ByteArray := ⟨#[33]⟩
def mCpl : ByteArray := ⟨#[126]⟩
/-- a comparison, if it is one -/
def cmpI (m : ByteArray) (a b : Int) : Option Bool :=
  if m = mLt then some (decide (a < b)) else if m = mGt then some (decide (b < a)) else if m = mLe then some (decide (a ≤ b)) else if m = mGe then some (decide (b ≤ a))
  else if m = mEq then some (decide (a = b)) else if m = mNe then some (decide (a ≠ b)) else none
/-- what is reckoned, ahead of its type; none: by nought -/
def ariI (m : ByteArray) (a b : Int) : Option Int :=
  if m = mMul then some (mulW a b)
  else if m = mDiv then (if b = 0 then none else some (a.tdiv b))
  else if m = mRem then (if b = 0 then none else some (a.tmod b))
  else if m = mAdd then some (a + b) else if m = mSub then some (a - b)
  else if m = mAnd then some (bits .and .i64 a b) else if m = mXor then some (bits .xor .i64 a b) else if m = mOr then some (bits .or .i64 a b) else some 0
def shfI (m : ByteArray) (t : ByteArray) (a y : Int) : Int := if m = mShr then (if t = iText12 then shrsW a y else shruW a y) else shlW a y
/-- a number of a type -/
abbrev Num := ByteArray × Int
/-- a binary operation -/
def binI (m x : ByteArray) (a : Int) (y : ByteArray) (b : Int) : Option Num :=
  if m = mAnd2 then some (iText12, truthI (decide (a ≠ 0) && decide (b ≠ 0)))
  else if m = mOr2 then some (iText12, truthI (decide (a ≠ 0) || decide (b ≠ 0)))
  else if m = mShl ∨ m = mShr then some (promI x, asI (shfI m (promI x) (asI a (promI x)) b) (promI x))
  else match cmpI m (asI a (commI x y)) (asI b (commI x y)) with
    | some r => some (iText12, truthI r)
    | none => (ariI m (asI a (commI x y)) (asI b (commI x y))).map fun n => (commI x y, asI n (commI x y))
/-- a unary operation -/
def unI (m x : ByteArray) (a : Int) : Option Num :=
  if m = mNot then some (iText12, truthI (decide (a = 0)))
  else if m = mSub then some (promI x, asI (-(asI a (promI x))) (promI x))
  else if m = mCpl then some (promI x, asI (-(asI a (promI x)) - 1) (promI x))
  else none
/-- the type that an operation makes -/
def madeK (m x y : ByteArray) : ByteArray :=
  if m = mLt ∨ m = mGt ∨ m = mLe ∨ m = mGe ∨ m = mEq ∨ m = mNe ∨ m = mAnd2 ∨ m = mOr2 then iText12 else if m = mShl ∨ m = mShr then promI x else commI x y
/-- a type of numbers -/
def IntT (t : ByteArray) : Prop := t = uText12 ∨ t = cText12 ∨ t = sText12 ∨ t = iText12
theorem isIntS_int {s : ByteArray} (h : isIntS s = true) : IntT s := by
  unfold IntT
  by_cases h1 : s = uText12
  · exact .inl h1
  by_cases h2 : s = cText12
  · exact .inr (.inl h2)
  by_cases h3 : s = sText12
  · exact .inr (.inr (.inl h3))
  by_cases h4 : s = iText12
  · exact .inr (.inr (.inr h4))
  rw [isIntS_not h2 h3 h4 h1] at h
  cases h
theorem intT_base {s : ByteArray} (h : IntT s) : ∃ c : UInt8, tyS s = some (.base c) ∧ (c = 99 ∨ c = 115 ∨ c = 105 ∨ c = 117) ∧ s = ⟨#[c]⟩ := by
  rcases h with rfl | rfl | rfl | rfl
  · exact ⟨117, tyS_base (by decide), by decide, rfl⟩
  · exact ⟨99, tyS_base (by decide), by decide, rfl⟩
  · exact ⟨115, tyS_base (by decide), by decide, rfl⟩
  · exact ⟨105, tyS_base (by decide), by decide, rfl⟩
theorem isIntS_of {s : ByteArray} (h : IntT s) : isIntS s = true := by
  obtain ⟨c, h1, h2, _⟩ := intT_base h
  unfold isIntS
  rw [h1]
  simpa [isIntT] using h2
theorem promoteV_int {t : ByteArray} (h : IntT t) : promoteV t (tyS t) = .tuple #[.string (promI t), .int .i64 0] := by
  rcases h with rfl | rfl | rfl | rfl
  · rw [show tyS uText12 = some (.base 117) from tyS_base (by decide)]; rfl
  · rw [show tyS cText12 = some (.base 99) from tyS_base (by decide)]; rfl
  · rw [show tyS sText12 = some (.base 115) from tyS_base (by decide)]; rfl
  · rw [show tyS iText12 = some (.base 105) from tyS_base (by decide)]; rfl
theorem commonV_int {t u : ByteArray} (h : IntT t) (h2 : IntT u) : commonV (tyS t) (tyS u) = .tuple #[.string (commI t u), .int .i64 0] := by
  have h117 : tyS uText12 = some (.base 117) := tyS_base (by decide)
  have h99 : tyS cText12 = some (.base 99) := tyS_base (by decide)
  have h115 : tyS sText12 = some (.base 115) := tyS_base (by decide)
  have h105 : tyS iText12 = some (.base 105) := tyS_base (by decide)
  rcases h with rfl | rfl | rfl | rfl <;> rcases h2 with rfl | rfl | rfl | rfl <;> simp only [h117, h99, h115, h105] <;> rfl
theorem promI_int (t : ByteArray) : IntT (promI t) := by rcases promI_ui t with h | h <;> rw [h] <;> simp [IntT]
theorem commI_int (t u : ByteArray) : IntT (commI t u) := by rcases commI_ui t u with h | h <;> rw [h] <;> simp [IntT]
theorem madeK_int (m x y : ByteArray) : IntT (madeK m x y) := by
  unfold madeK
  split
  · simp [IntT]
  split
  · exact promI_int _
  · exact commI_int _ _
theorem cmpI_none {m : ByteArray} {a b : Int} (h : ¬ (m = mLt ∨ m = mGt ∨ m = mLe ∨ m = mGe ∨ m = mEq ∨ m = mNe)) : cmpI m a b = none := by
  unfold cmpI
  simp only [not_or] at h
  obtain ⟨h1, h2, h3, h4, h5, h6⟩ := h
  rw [if_neg h1, if_neg h2, if_neg h3, if_neg h4, if_neg h5, if_neg h6]
theorem cmpI_some {m : ByteArray} {a b : Int} (h : m = mLt ∨ m = mGt ∨ m = mLe ∨ m = mGe ∨ m = mEq ∨ m = mNe) : ∃ r, cmpI m a b = some r := by
  unfold cmpI
  rcases h with rfl | rfl | rfl | rfl | rfl | rfl
  · exact ⟨_, if_pos rfl⟩
  · exact ⟨_, by rw [if_neg (by decide), if_pos rfl]⟩
  · exact ⟨_, by rw [if_neg (by decide), if_neg (by decide), if_pos rfl]⟩
  · exact ⟨_, by rw [if_neg (by decide), if_neg (by decide), if_neg (by decide), if_pos rfl]⟩
  · exact ⟨_, by rw [if_neg (by decide), if_neg (by decide), if_neg (by decide), if_neg (by decide), if_pos rfl]⟩
  · exact ⟨_, by rw [if_neg (by decide), if_neg (by decide), if_neg (by decide), if_neg (by decide), if_neg (by decide), if_pos rfl]⟩
/-- what an operation makes has that type -/
theorem binI_type {m x y : ByteArray} {a b : Int} {v : Num} (h : binI m x a y b = some v) : v.1 = madeK m x y := by
  unfold binI at h
  unfold madeK
  split at h
  · obtain rfl := Option.some.inj h
    rw [if_pos (by simp [*])]
  split at h
  · obtain rfl := Option.some.inj h
    rw [if_pos (by simp [*])]
  rename_i h1 h2
  split at h
  · rename_i h3
    obtain rfl := Option.some.inj h
    rw [if_neg (by rcases h3 with rfl | rfl <;> decide), if_pos h3]
  rename_i h3
  by_cases hc : m = mLt ∨ m = mGt ∨ m = mLe ∨ m = mGe ∨ m = mEq ∨ m = mNe
  · obtain ⟨r, hr⟩ := cmpI_some (a := asI a (commI x y)) (b := asI b (commI x y)) hc
    rw [hr] at h
    obtain rfl := Option.some.inj h
    rw [if_pos (by rcases hc with h | h | h | h | h | h <;> simp [h])]
  · rw [cmpI_none hc] at h
    simp only [Option.map_eq_some_iff] at h
    obtain ⟨n, _, rfl⟩ := h
    simp only [not_or] at hc
    rw [if_neg (by simp [hc, h1, h2]), if_neg h3]
/-- a node that a constant may be made of -/
def shN (L : List Sr) (x : Nd) : Bool :=
  if x.kind = 1 ∨ x.kind = 9 ∨ x.kind = 7 then true
  else if x.kind = 4 then !(decide (x.text = mAnd) || decide (x.text = mMul))
  else if x.kind = 15 then isIntS x.type
  else if x.kind = 17 then decide ((sizeR L x.type).2.2 = 0)
  else false
def shapT (L : List Sr) (T : Tr) : Bool := T.flat.all (shN L)
def shapAll (L : List Sr) (ps : List Tr) : Bool := ps.all (shapT L)
theorem flatAll_all (f : Nd → Bool) (ps : List Tr) : (flatAll ps).all f = ps.all fun T => T.flat.all f := by
  induction ps with
  | nil => rfl
  | cons T r ih => rw [flatAll, List.all_append, ih, List.all_cons]
theorem shapT_node (L : List Sr) (x : Nd) (ps : List Tr) : shapT L (.node x ps) = (shapAll L ps && shN L x) := by
  unfold shapT shapAll
  rw [Tr.flat, List.all_append, flatAll_all]
  simp
  rfl
/-- the type, by the parts' types -/
def kindN (x : Nd) (ks : List ByteArray) : ByteArray :=
  if x.kind = 1 ∨ x.kind = 15 then x.type
  else if x.kind = 17 then uText12
  else if x.kind = 4 then (if x.text = mNot then iText12 else promI (ks.getD 0 ⟨#[]⟩))
  else if x.kind = 9 then commI (ks.getD 1 ⟨#[]⟩) (ks.getD 2 ⟨#[]⟩)
  else madeK x.text (ks.getD 0 ⟨#[]⟩) (ks.getD 1 ⟨#[]⟩)
mutual
def kindT : Tr → ByteArray
  | .node x ps => kindN x (kindsT ps)
def kindsT : List Tr → List ByteArray
  | [] => []
  | T :: r => kindT T :: kindsT r
end
theorem kindsT_map (ps : List Tr) : kindsT ps = ps.map kindT := by
  induction ps with
  | nil => rfl
  | cons T r ih => rw [kindsT, ih, List.map_cons]
theorem kindT_node (x : Nd) (ps : List Tr) : kindT (.node x ps) = kindN x (ps.map kindT) := by rw [kindT, kindsT_map]
/-- the number, by the parts' numbers -/
def evalN (L : List Sr) (x : Nd) (kd : ByteArray) (vs : List (Option Num)) : Option Num :=
  if x.kind = 1 then some (x.type, asI x.int x.type)
  else if x.kind = 17 then some (uText12, (sizeR L x.type).1)
  else match vs.getD 0 none with
    | none => none
    | some v =>
      if x.kind = 4 then unI x.text v.1 v.2
      else if x.kind = 15 then some (x.type, asI v.2 x.type)
      else if x.kind = 9 then (vs.getD (if v.2 = 0 then 2 else 1) none).map fun y => (kd, asI y.2 kd)
      else if (x.text = mAnd2 ∧ v.2 = 0) ∨ (x.text = mOr2 ∧ v.2 ≠ 0) then some (iText12, truthI (decide (v.2 ≠ 0)))
      else match vs.getD 1 none with
        | none => none
        | some y => binI x.text v.1 v.2 y.1 y.2
mutual
def evalT (L : List Sr) : Tr → Option Num
  | .node x ps => evalN L x (kindN x (kindsT ps)) (evalsT L ps)
def evalsT (L : List Sr) : List Tr → List (Option Num)
  | [] => []
  | T :: r => evalT L T :: evalsT L r
end
theorem evalsT_map (L : List Sr) (ps : List Tr) : evalsT L ps = ps.map (evalT L) := by
  induction ps with
  | nil => rfl
  | cons T r ih => rw [evalsT, ih, List.map_cons]
theorem evalT_node (L : List Sr) (x : Nd) (ps : List Tr) : evalT L (.node x ps) = evalN L x (kindT (.node x ps)) (ps.map (evalT L)) := by rw [evalT, evalsT_map, kindT]
/-- what a tree comes to as a constant -/
def constT (L : List Sr) (T : Tr) : Option Num := if shapT L T then evalT L T else none
end Go.Proofs.YtlcfejgjeljjdaaGreatDoor
namespace Go.Proofs.YtlcfejgjeljjdaaGreatDoor
open Go.RowKit

theorem wraps32 (n : Int) (h₀ : 0 ≤ n) (h₁ : n < 2 ^ 32) : IntKind.u32.wrap n = n := by rw [IntKind.wrap_u32]; omega
theorem mask31 {y : Int} (h : 0 ≤ y ∧ y < 4294967296) : bits .and .u32 y 31 = y % 32 := bits_mask .u32 32 (by decide) wraps32 5 (by decide) y h.1 h.2
theorem w32s (x : Int) : wrap32 x = sgnI 32 x := by unfold wrap32; rw [sgn32]
theorem sgn32_range (x : Int) : -2147483648 ≤ sgnI 32 x ∧ sgnI 32 x < 2147483648 := by rw [sgn32]; omega
theorem w64s (x : Int) : wrap64 (wrap32 x) = sgnI 32 x := by
  rw [w32s]
  have := sgn32_range x
  unfold wrap64
  omega
theorem ext8_is (x : Int) : wrap32 (x * 16777216 % 4294967296) / 16777216 % 4294967296 = sgnI 8 x % 4294967296 := by rw [w32s, sgn32, sgn8]; omega
theorem ext16_is (x : Int) : wrap32 (x * 65536 % 4294967296) / 65536 % 4294967296 = sgnI 16 x % 4294967296 := by rw [w32s, sgn32, sgn16]; omega
theorem ext32_is (x : Int) : wrap32 x % 4294967296 = sgnI 32 x % 4294967296 := by rw [w32s]
theorem retU {a b : Int} (h : a = b) : Ending.returned (.int .u32 a) = .returned (.int .u32 b) := by rw [h]
theorem retI {a b : Int} (h : a = b) : Ending.returned (.int .i64 a) = .returned (.int .i64 b) := by rw [h]
theorem mod_word {x : Int} (h : 0 ≤ x ∧ x < 4294967296) : x % 4294967296 = x := by omega
theorem mul_is (x y : Int) (h : 0 ≤ x ∧ x < 4294967296) (h2 : 0 ≤ y ∧ y < 4294967296) : IntKind.u64.wrap (x * y) % 4294967296 = mulW x y := by
  unfold mulW
  rw [mod_word h, mod_word h2, IntKind.wrap_u64]
  omega
theorem wof_ok (n : Int) (w : World) : Calls Tryz.prog 55 #[.int .i64 n] w fun e w' => e = .returned (.int .u32 (n % 4294967296)) ∧ w' = w := by
  go_enter Tryz.func55, Tryz.ntmps55
  go_wp2_with fail
  go_ret
  exact ⟨rfl, rfl⟩
theorem wsigned_ok (x : Int) (w : World) : Calls Tryz.prog 63 #[.int .u32 x] w fun e w' => e = .returned (.int .i64 (sgnI 32 x)) ∧ w' = w := by
  have hv := Lib.hid (w64s x)
  go_enter Tryz.func63, Tryz.ntmps63
  go_wp2_with fail
  go_ret
  exact ⟨retI hv.out, rfl⟩
theorem wext_ok (x b : Int) (w : World) (h : 0 ≤ x ∧ x < 4294967296) (hb : b = 8 ∨ b = 16 ∨ b = 32) : Calls Tryz.prog 62 #[.int .u32 x, .int .i64 b] w fun e w' => e = .returned (.tuple #[.int .u32 (sgnI b.toNat x % 4294967296), .int .i64 0]) ∧ w' = w := by
  have h8 := Lib.hid (ext8_is x)
  have h16 := Lib.hid (ext16_is x)
  have h32 := Lib.hid (ext32_is x)
  rcases hb with rfl | rfl | rfl
  · go_enter Tryz.func62, Tryz.ntmps62
    go_wp2_with fail
    go_ret2
    exact ⟨congrArg (fun v => Ending.returned (.tuple #[.int .u32 v, .int .i64 0])) h8.out, rfl⟩
  · go_enter Tryz.func62, Tryz.ntmps62
    go_wp2_with fail
    go_ret2
    exact ⟨congrArg (fun v => Ending.returned (.tuple #[.int .u32 v, .int .i64 0])) h16.out, rfl⟩
  · go_enter Tryz.func62, Tryz.ntmps62
    go_wp2_with fail
    go_ret2
    exact ⟨congrArg (fun v => Ending.returned (.tuple #[.int .u32 v, .int .i64 0])) h32.out, rfl⟩
theorem wmul_ok (x y : Int) (w : World) (h : 0 ≤ x ∧ x < 4294967296) (h2 : 0 ≤ y ∧ y < 4294967296) : Calls Tryz.prog 61 #[.int .u32 x, .int .u32 y] w fun e w' => (∃ hi, e = .returned (.tuple #[.int .u32 (mulW x y), .int .u32 hi])) ∧ w' = w := by
  have hv := Lib.hid (mul_is x y h h2)
  go_enter Tryz.func61, Tryz.ntmps61
  go_wp2_with fail
  go_ret2
  exact ⟨⟨_, congrArg (fun v => Ending.returned (.tuple #[.int .u32 v, .int .u32 _])) hv.out⟩, rfl⟩
theorem wshl_ok (x y : Int) (w : World) (h : 0 ≤ x ∧ x < 4294967296) (h2 : 0 ≤ y ∧ y < 4294967296) : Calls Tryz.prog 56 #[.int .u32 x, .int .u32 y] w fun e w' => e = .returned (.int .u32 (shlW x y)) ∧ w' = w := by
  have hb : bits .and .u32 y 31 = y % 32 := mask31 h2
  have h3 : 0 ≤ y % 32 ∧ y % 32 ≤ 32 := by omega
  have hv := Lib.hid (show x * 2 ^ (y % 32).toNat % 4294967296 = shlW x y by unfold shlW; rw [mod_word h, mod_word h2])
  go_enter Tryz.func56, Tryz.ntmps56
  go_wp2_with fail
  go_ret
  exact ⟨retU hv.out, rfl⟩
theorem wshr_ok (x y : Int) (w : World) (h2 : 0 ≤ y ∧ y < 4294967296) : Calls Tryz.prog 58 #[.int .u32 x, .int .u32 y] w fun e w' => e = .returned (.int .u32 (shrsW x y)) ∧ w' = w := by
  have hb : bits .and .u32 y 31 = y % 32 := mask31 h2
  have h3 : 0 ≤ y % 32 ∧ y % 32 ≤ 32 := by omega
  have hv := Lib.hid (show wrap32 x / 2 ^ (y % 32).toNat % 4294967296 = shrsW x y by unfold shrsW; rw [w32s, mod_word h2])
  go_enter Tryz.func58, Tryz.ntmps58
  go_wp2_with fail
  go_ret
  exact ⟨retU hv.out, rfl⟩
theorem wshru_ok (x y : Int) (w : World) (h : 0 ≤ x ∧ x < 4294967296) (h2 : 0 ≤ y ∧ y < 4294967296) : Calls Tryz.prog 57 #[.int .u32 x, .int .u32 y] w fun e w' => e = .returned (.int .u32 (shruW x y)) ∧ w' = w := by
  have hb : bits .and .u32 y 31 = y % 32 := mask31 h2
  have h3 : 0 ≤ y % 32 ∧ y % 32 ≤ 32 := by omega
  have hv := Lib.hid (show x / 2 ^ (y % 32).toNat = shruW x y by unfold shruW; rw [mod_word h, mod_word h2])
  go_enter Tryz.func57, Tryz.ntmps57
  go_wp2_with fail
  go_ret
  exact ⟨retU hv.out, rfl⟩
/-- through a word and back -/
theorem asI_through {n : Int} {b : Nat} (hb : b = 8 ∨ b = 16 ∨ b = 32) : sgnI 32 (sgnI b (n % 4294967296) % 4294967296) = sgnI b n := by
  rcases hb with rfl | rfl | rfl
  · rw [sgn32, sgn8, sgn8]; omega
  · rw [sgn32, sgn16, sgn16]; omega
  · rw [sgn32, sgn32, sgn32]; omega
theorem as_ok (n : Int) (t : ByteArray) (w : World) : Calls Tryz.prog 30 #[.int .i64 n, .string t] w fun e w' => e = .returned (.int .i64 (asI n t)) ∧ w' = w := by
  have hm : 0 ≤ n % 4294967296 ∧ n % 4294967296 < 4294967296 := by omega
  have H1 := Lib.hid (wof_ok n w)
  by_cases hu : t = uText12
  · have t1 : (t.toList == [117]) = true := by rw [str_one]; exact decide_eq_true hu
    have hv := Lib.hid (show n % 4294967296 = asI n t by unfold asI; rw [if_pos hu])
    clear hu
    go_enter Tryz.func30, Tryz.ntmps30
    go_wp2_with (go_at_call 55; (with_reducible refine H1.out.mono ?_); rintro e w1 ⟨rfl, rfl⟩)
    go_ret
    exact ⟨retI hv.out, rfl⟩
  have t1 : (t.toList == [117]) = false := by rw [str_one]; exact decide_eq_false hu
  by_cases hc : t = cText12
  · have t2 : (t.toList == [99]) = true := by rw [str_one]; exact decide_eq_true hc
    have hv := Lib.hid (show sgnI 32 (sgnI 8 (n % 4294967296) % 4294967296) = asI n t by rw [asI_through (.inl rfl)]; unfold asI; rw [if_neg hu, if_pos hc])
    have H2 := Lib.hid (wext_ok (n % 4294967296) 8 w hm (.inl rfl))
    have H3 := Lib.hid (wsigned_ok (sgnI 8 (n % 4294967296) % 4294967296) w)
    clear hu hc
    go_enter Tryz.func30, Tryz.ntmps30
    go_wp2_with (first | (go_at_call 55; (with_reducible refine H1.out.mono ?_); rintro e w1 ⟨rfl, rfl⟩) | (go_at_call 62; (with_reducible refine H2.out.mono ?_); rintro e w1 ⟨rfl, rfl⟩) | (go_at_call 63; (with_reducible refine H3.out.mono ?_); rintro e w1 ⟨rfl, rfl⟩))
    go_ret
    exact ⟨retI hv.out, rfl⟩
  have t2 : (t.toList == [99]) = false := by rw [str_one]; exact decide_eq_false hc
  by_cases hs : t = sText12
  · have t3 : (t.toList == [115]) = true := by rw [str_one]; exact decide_eq_true hs
    have hv := Lib.hid (show sgnI 32 (sgnI 16 (n % 4294967296) % 4294967296) = asI n t by rw [asI_through (.inr (.inl rfl))]; unfold asI; rw [if_neg hu, if_neg hc, if_pos hs])
    have H2 := Lib.hid (wext_ok (n % 4294967296) 16 w hm (.inr (.inl rfl)))
    have H3 := Lib.hid (wsigned_ok (sgnI 16 (n % 4294967296) % 4294967296) w)
    clear hu hc hs
    go_enter Tryz.func30, Tryz.ntmps30
    go_wp2_with (first | (go_at_call 55; (with_reducible refine H1.out.mono ?_); rintro e w1 ⟨rfl, rfl⟩) | (go_at_call 62; (with_reducible refine H2.out.mono ?_); rintro e w1 ⟨rfl, rfl⟩) | (go_at_call 63; (with_reducible refine H3.out.mono ?_); rintro e w1 ⟨rfl, rfl⟩))
    go_ret
    exact ⟨retI hv.out, rfl⟩
  have t3 : (t.toList == [115]) = false := by rw [str_one]; exact decide_eq_false hs
  have hv := Lib.hid (show sgnI 32 (sgnI 32 (n % 4294967296) % 4294967296) = asI n t by rw [asI_through (.inr (.inr rfl))]; unfold asI; rw [if_neg hu, if_neg hc, if_neg hs])
  have H2 := Lib.hid (wext_ok (n % 4294967296) 32 w hm (.inr (.inr rfl)))
  have H3 := Lib.hid (wsigned_ok (sgnI 32 (n % 4294967296) % 4294967296) w)
  clear hu hc hs
  go_enter Tryz.func30, Tryz.ntmps30
  go_wp2_with (first | (go_at_call 55; (with_reducible refine H1.out.mono ?_); rintro e w1 ⟨rfl, rfl⟩) | (go_at_call 62; (with_reducible refine H2.out.mono ?_); rintro e w1 ⟨rfl, rfl⟩) | (go_at_call 63; (with_reducible refine H3.out.mono ?_); rintro e w1 ⟨rfl, rfl⟩))
  go_ret
  exact ⟨retI hv.out, rfl⟩
end Go.Proofs.YtlcfejgjeljjdaaGreatDoor
namespace Go.Proofs.YtlcfejgjeljjdaaGreatDoor
open Go.ChangeShapes Go.WideShapes Go.ChangeAt Go.RowKit Go.Deep

/-- a slice of elements of k cells each, below B -/
def IsSl {α : Type} (k : Nat) (cells : α → List Value) (B : Nat) (w : World) (a : Option Addr) (L : List α) : Prop :=
  L ≠ [] → ∃ b off, a = some ⟨b, off, none⟩ ∧ b < B ∧ ∀ (i : Nat) t, L[i]? = some t → ∀ (j : Nat) u, (cells t)[j]? = some u → w.cell? ⟨b, off + i * k + j, none⟩ = some u
theorem IsSl.below {α : Type} {k : Nat} {cells : α → List Value} {B B' : Nat} {w w' : World} {a : Option Addr} {L : List α} (h : IsSl k cells B w a L) (hb : Below B' w w') (hB : B ≤ B') : IsSl k cells B w' a L := fun hn => by
  obtain ⟨b, off, rfl, hlt, hc⟩ := h hn
  exact ⟨b, off, rfl, hlt, fun i t ht j u hu => by rw [hb.cell (show b < B' by omega)]; exact hc i t ht j u hu⟩
theorem IsSl.mono {α : Type} {k : Nat} {cells : α → List Value} {B B' : Nat} {w : World} {a : Option Addr} {L : List α} (h : IsSl k cells B w a L) (hB : B ≤ B') : IsSl k cells B' w a L := fun hn => by
  obtain ⟨b, off, rfl, hlt, hc⟩ := h hn
  exact ⟨b, off, rfl, by omega, hc⟩
theorem isSl_nil {α : Type} {k : Nat} {cells : α → List Value} {B : Nat} {w : World} {a : Option Addr} : IsSl k cells B w a [] := fun h => absurd rfl h

section
variable {H : Type} {enc : TypeId × Value → H} {w : World} {base : Nat} {spare : Nat → Bool} {held : Bool}
end
end Go.Proofs.YtlcfejgjeljjdaaGreatDoor
namespace Go.Proofs.YtlcfejgjeljjdaaGreatDoor
open Go.ChangeShapes Go.WideShapes Go.ChangeAt Go.RowKit Go.Deep

def ndCells (x : Nd) : List Value := [.int .i64 x.kind, .int .i64 x.n, .int .i64 x.at_, .int .i64 x.int, .string x.text, .string x.type]
def ndV (x : Nd) : Value := .agg #[.int .i64 x.kind, .int .i64 x.n, .int .i64 x.at_, .int .i64 x.int, .string x.text, .string x.type]
/-- a node in a block of its own -/
abbrev ndObj (x : Nd) : Obj := .cells #[.int .i64 x.kind, .int .i64 x.n, .int .i64 x.at_, .int .i64 x.int, .string x.text, .string x.type] 42
theorem six_block {w : World} {b : Nat} {a0 a1 a2 a3 a4 a5 : Value} {T : TypeId} (h : w.heap[b]? = some (.cells #[a0, a1, a2, a3, a4, a5] T (0, 0))) :
    (w.cell? ⟨b, 0, none⟩ = some a0 ∧ w.cell? ⟨b, 1, none⟩ = some a1 ∧ w.cell? ⟨b, 2, none⟩ = some a2 ∧ w.cell? ⟨b, 3, none⟩ = some a3 ∧ w.cell? ⟨b, 4, none⟩ = some a4 ∧ w.cell? ⟨b, 5, none⟩ = some a5) ∧ ∀ j, w.frozen? ⟨b, j, none⟩ = false := by
  refine ⟨⟨?_, ?_, ?_, ?_, ?_, ?_⟩, fun j => ?_⟩ <;> simp [World.cell?, World.frozen?, h]
/-- nodes, each of six cells -/
abbrev IsNds (B : Nat) (w : World) (a : Option Addr) (t : List Nd) : Prop := IsSl 6 ndCells B w a t
theorem nds_at {B : Nat} {w : World} {a : Option Addr} {t : List Nd} (h : IsNds B w a t) {i : Nat} (hi : i < t.length) : ∃ b off, a = some ⟨b, off, none⟩ ∧ b < B ∧
    w.cell? ⟨b, off + i * 6, none⟩ = some (.int .i64 t[i].kind) ∧ w.cell? ⟨b, off + i * 6 + 1, none⟩ = some (.int .i64 t[i].n) ∧ w.cell? ⟨b, off + i * 6 + 2, none⟩ = some (.int .i64 t[i].at_) ∧ w.cell? ⟨b, off + i * 6 + 3, none⟩ = some (.int .i64 t[i].int) ∧ w.cell? ⟨b, off + i * 6 + 4, none⟩ = some (.string t[i].text) ∧ w.cell? ⟨b, off + i * 6 + 5, none⟩ = some (.string t[i].type) := by
  obtain ⟨b, off, e, hlt, hc⟩ := h (fun e => by rw [e] at hi; simp at hi)
  have hx := List.getElem?_eq_getElem hi
  exact ⟨b, off, e, hlt, hc i _ hx 0 _ rfl, hc i _ hx 1 _ rfl, hc i _ hx 2 _ rfl, hc i _ hx 3 _ rfl, hc i _ hx 4 _ rfl, hc i _ hx 5 _ rfl⟩

section
variable {H : Type} {enc : TypeId × Value → H} {w : World} {base : Nat} {spare : Nat → Bool} {held : Bool}
def i64In (n : Int) : Prop := -9223372036854775808 ≤ n ∧ n ≤ 9223372036854775807
def NdOk (x : Nd) : Prop := i64In x.kind ∧ i64In x.n ∧ i64In x.at_ ∧ i64In x.int
end
end Go.Proofs.YtlcfejgjeljjdaaGreatDoor
