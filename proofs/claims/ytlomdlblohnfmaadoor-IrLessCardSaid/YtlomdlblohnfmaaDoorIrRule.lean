/- The rules of the kinds of operations: their words, their tests. -/
import Derived.Test.YtlomdlblohnfmaaDoorIrReg
import Derived.Laws.EntriesVeiled
namespace Go.Proofs.YtlomdlblohnfmaaDoor
open Go.RowKit

/-- a kind's word -/
def wordI (k : Int) : List UInt8 :=
  if k = 1 then [99, 111, 110, 115, 116] else
  if k = 2 then [109, 111, 118, 101] else
  if k = 3 then [97, 100, 100] else
  if k = 4 then [115, 117, 98] else
  if k = 5 then [109, 117, 108] else
  if k = 6 then [100, 105, 118] else
  if k = 7 then [100, 105, 118, 117] else
  if k = 8 then [114, 101, 109] else
  if k = 9 then [114, 101, 109, 117] else
  if k = 10 then [97, 110, 100] else
  if k = 11 then [111, 114] else
  if k = 12 then [120, 111, 114] else
  if k = 13 then [115, 104, 108] else
  if k = 14 then [115, 104, 114] else
  if k = 15 then [115, 104, 114, 117] else
  if k = 16 then [108, 116] else
  if k = 17 then [108, 116, 117] else
  if k = 18 then [101, 113] else
  if k = 19 then [110, 101] else
  if k = 20 then [101, 120, 116] else
  if k = 21 then [115, 108, 111, 116] else
  if k = 22 then [103, 108, 111, 98, 97, 108] else
  if k = 23 then [115, 116, 114, 105, 110, 103] else
  if k = 24 then [102, 117, 110, 99] else
  if k = 25 then [108, 111, 97, 100] else
  if k = 26 then [115, 116, 111, 114, 101] else
  if k = 27 then [99, 111, 112, 121] else
  if k = 28 then [99, 97, 108, 108] else
  if k = 29 then [98, 117, 105, 108, 116] else
  []
/-- its tests -/
def immF (k : Int) : Nat := if k = 1 then 69 else if k = 20 then 70 else if k = 21 ∨ k = 23 then 71 else if k = 25 ∨ k = 26 then 72 else if k = 27 then 73 else 67
def textF (k : Int) : Nat := if k = 22 ∨ k = 24 then 38 else if k = 29 then 74 else 68
def mkRule (word : ByteArray) (r : IrRule) (imm text : Nat) : Value := .agg #[.string word, .bool r.d, .bool r.a, .bool r.b, .func (.func imm) #[] #[], .func (.func text) #[] #[], .bool r.args, .bool r.maybe]
def noRule : Value := .agg #[.string ⟨#[]⟩, .bool false, .bool false, .bool false, .nilFunc, .nilFunc, .bool false, .bool false]
/-- how ruleOf ends -/
def RuleEnd (k : Int) (w : World) (e : Ending) (w' : World) : Prop := Below w.heap.size w w' ∧ match ruleI k with
  | none => e = .returned (.tuple #[noRule, .bool false])
  | some r => e = .returned (.tuple #[mkRule ⟨(wordI k).toArray⟩ r (immF k) (textF k), .bool true])
theorem run_index_one {P : Program} {t e : TypeId} {n : Nat} {cs : Array Value} {k : IntKind} {i : Int} {v : Value} {w : World} (h : P.underlying t = some (.array n e)) (hs : (isAgg e).run P w = .ok false w) (hz : (sizeOf e).run P w = .ok 1 w) (hi : 0 ≤ i ∧ i < n) (hc : cs[i.toNat]? = some v) :
    (Instr.index t (.agg cs) (.int k i)).run P w = .ok v w := by
  simp [Instr.index, run_underlying h, asIntOf, hi, go_sem, part, hs, hz, hc]
theorem index_word (k : Int) (h : 3 ≤ k ∧ k ≤ 19) (w : World) : (Instr.index 142 (.agg #[Value.string { data := #[97, 100, 100] }, Value.string { data := #[115, 117, 98] }, Value.string { data := #[109, 117, 108] }, Value.string { data := #[100, 105, 118] }, Value.string { data := #[100, 105, 118, 117] }, Value.string { data := #[114, 101, 109] }, Value.string { data := #[114, 101, 109, 117] }, Value.string { data := #[97, 110, 100] }, Value.string { data := #[111, 114] }, Value.string { data := #[120, 111, 114] }, Value.string { data := #[115, 104, 108] }, Value.string { data := #[115, 104, 114] }, Value.string { data := #[115, 104, 114, 117] }, Value.string { data := #[108, 116] }, Value.string { data := #[108, 116, 117] }, Value.string { data := #[101, 113] }, Value.string { data := #[110, 101] }]) (.int .i64 (k - 3))).run Tryd.prog w = .ok (.string ⟨(wordI k).toArray⟩) w := by
  obtain ⟨h1, h2⟩ := h
  have hk : k = 3 ∨ k = 4 ∨ k = 5 ∨ k = 6 ∨ k = 7 ∨ k = 8 ∨ k = 9 ∨ k = 10 ∨ k = 11 ∨ k = 12 ∨ k = 13 ∨ k = 14 ∨ k = 15 ∨ k = 16 ∨ k = 17 ∨ k = 18 ∨ k = 19 := by omega
  clear h1 h2
  rcases hk with rfl | rfl | rfl | rfl | rfl | rfl | rfl | rfl | rfl | rfl | rfl | rfl | rfl | rfl | rfl | rfl | rfl <;>
  exact run_index_one Tryd.underlying142 (by kernel_rfl) (by kernel_rfl) (by decide) (by rfl)
set_option maxRecDepth 100000 in
set_option maxHeartbeats 4000000 in
theorem irWord_ok (k : Int) (h : 3 ≤ k ∧ k ≤ 19) (w : World) : Calls Tryd.prog 66 #[.int .i64 k] w fun e w' => e = .returned (.string ⟨(wordI k).toArray⟩) ∧ w' = w := by
  obtain ⟨x, hx⟩ : ∃ x, x = (⟨(wordI k).toArray⟩ : ByteArray) := ⟨_, rfl⟩
  have hi := index_word k h
  rw [← hx] at hi ⊢
  obtain ⟨h1, h2⟩ := h
  clear hx
  go_enter Tryd.func66, Tryd.ntmps66
  go_wp2
  go_ret
  exact ⟨rfl, rfl⟩
set_option maxHeartbeats 4000000 in
theorem ruleOf_ok (k : Int) (w : World) : Calls Tryd.prog 46 #[.int .i64 k] w (RuleEnd k w) := by
  by_cases h : 3 ≤ k ∧ k ≤ 19
  · have HW := Lib.hid fun w1 => irWord_ok k h w1
    have he : ruleI k = some ⟨true, true, true, false, false⟩ := by unfold ruleI; rw [if_pos h]
    have hi : immF k = 67 := by unfold immF; rw [if_neg (by omega), if_neg (by omega), if_neg (by omega), if_neg (by omega), if_neg (by omega)]
    have ht : textF k = 68 := by unfold textF; rw [if_neg (by omega), if_neg (by omega)]
    have HE := Lib.hid he
    have HI := Lib.hid hi
    have HT := Lib.hid ht
    obtain ⟨h1, h2⟩ := h
    clear he hi ht
    go_enter Tryd.func46, Tryd.ntmps46
    go_wp2_with (go_at_call 66; refine (HW.out _).mono ?_; rintro e w1 ⟨rfl, hb⟩; subst hb)
    refine bodyPost_ret (v := .tuple #[mkRule ⟨(wordI k).toArray⟩ ⟨true, true, true, false, false⟩ 67 68, .bool true]) (by simp [results, mkRule, Tryd.results46, go_sem]) rfl ?_
    unfold RuleEnd
    rw [HE.out, HI.out, HT.out]
    exact ⟨(Below.refl _ _).alloc (Nat.le_refl _) _, rfl⟩
  by_cases h1 : k = 1
  · subst h1
    clear h
    go_enter Tryd.func46, Tryd.ntmps46
    go_wp2
    exact bodyPost_ret (v := .tuple #[mkRule ⟨#[99, 111, 110, 115, 116]⟩ ⟨true, false, false, false, false⟩ 69 68, .bool true]) (by simp [results, mkRule, Tryd.results46, go_sem]) rfl ⟨(Below.refl _ _).alloc (Nat.le_refl _) _, rfl⟩
  by_cases h2 : k = 2
  · subst h2
    clear h h1
    go_enter Tryd.func46, Tryd.ntmps46
    go_wp2
    exact bodyPost_ret (v := .tuple #[mkRule ⟨#[109, 111, 118, 101]⟩ ⟨true, true, false, false, false⟩ 67 68, .bool true]) (by simp [results, mkRule, Tryd.results46, go_sem]) rfl ⟨(Below.refl _ _).alloc (Nat.le_refl _) _, rfl⟩
  by_cases h20 : k = 20
  · subst h20
    clear h h1 h2
    go_enter Tryd.func46, Tryd.ntmps46
    go_wp2
    exact bodyPost_ret (v := .tuple #[mkRule ⟨#[101, 120, 116]⟩ ⟨true, true, false, false, false⟩ 70 68, .bool true]) (by simp [results, mkRule, Tryd.results46, go_sem]) rfl ⟨(Below.refl _ _).alloc (Nat.le_refl _) _, rfl⟩
  by_cases h21 : k = 21
  · subst h21
    clear h h1 h2 h20
    go_enter Tryd.func46, Tryd.ntmps46
    go_wp2
    exact bodyPost_ret (v := .tuple #[mkRule ⟨#[115, 108, 111, 116]⟩ ⟨true, false, false, false, false⟩ 71 68, .bool true]) (by simp [results, mkRule, Tryd.results46, go_sem]) rfl ⟨(Below.refl _ _).alloc (Nat.le_refl _) _, rfl⟩
  by_cases h22 : k = 22
  · subst h22
    clear h h1 h2 h20 h21
    go_enter Tryd.func46, Tryd.ntmps46
    go_wp2
    exact bodyPost_ret (v := .tuple #[mkRule ⟨#[103, 108, 111, 98, 97, 108]⟩ ⟨true, false, false, false, false⟩ 67 38, .bool true]) (by simp [results, mkRule, Tryd.results46, go_sem]) rfl ⟨(Below.refl _ _).alloc (Nat.le_refl _) _, rfl⟩
  by_cases h23 : k = 23
  · subst h23
    clear h h1 h2 h20 h21 h22
    go_enter Tryd.func46, Tryd.ntmps46
    go_wp2
    exact bodyPost_ret (v := .tuple #[mkRule ⟨#[115, 116, 114, 105, 110, 103]⟩ ⟨true, false, false, false, false⟩ 71 68, .bool true]) (by simp [results, mkRule, Tryd.results46, go_sem]) rfl ⟨(Below.refl _ _).alloc (Nat.le_refl _) _, rfl⟩
  by_cases h24 : k = 24
  · subst h24
    clear h h1 h2 h20 h21 h22 h23
    go_enter Tryd.func46, Tryd.ntmps46
    go_wp2
    exact bodyPost_ret (v := .tuple #[mkRule ⟨#[102, 117, 110, 99]⟩ ⟨true, false, false, false, false⟩ 67 38, .bool true]) (by simp [results, mkRule, Tryd.results46, go_sem]) rfl ⟨(Below.refl _ _).alloc (Nat.le_refl _) _, rfl⟩
  by_cases h25 : k = 25
  · subst h25
    clear h h1 h2 h20 h21 h22 h23 h24
    go_enter Tryd.func46, Tryd.ntmps46
    go_wp2
    exact bodyPost_ret (v := .tuple #[mkRule ⟨#[108, 111, 97, 100]⟩ ⟨true, true, false, false, false⟩ 72 68, .bool true]) (by simp [results, mkRule, Tryd.results46, go_sem]) rfl ⟨(Below.refl _ _).alloc (Nat.le_refl _) _, rfl⟩
  by_cases h26 : k = 26
  · subst h26
    clear h h1 h2 h20 h21 h22 h23 h24 h25
    go_enter Tryd.func46, Tryd.ntmps46
    go_wp2
    exact bodyPost_ret (v := .tuple #[mkRule ⟨#[115, 116, 111, 114, 101]⟩ ⟨false, true, true, false, false⟩ 72 68, .bool true]) (by simp [results, mkRule, Tryd.results46, go_sem]) rfl ⟨(Below.refl _ _).alloc (Nat.le_refl _) _, rfl⟩
  by_cases h27 : k = 27
  · subst h27
    clear h h1 h2 h20 h21 h22 h23 h24 h25 h26
    go_enter Tryd.func46, Tryd.ntmps46
    go_wp2
    exact bodyPost_ret (v := .tuple #[mkRule ⟨#[99, 111, 112, 121]⟩ ⟨false, true, true, false, false⟩ 73 68, .bool true]) (by simp [results, mkRule, Tryd.results46, go_sem]) rfl ⟨(Below.refl _ _).alloc (Nat.le_refl _) _, rfl⟩
  by_cases h28 : k = 28
  · subst h28
    clear h h1 h2 h20 h21 h22 h23 h24 h25 h26 h27
    go_enter Tryd.func46, Tryd.ntmps46
    go_wp2
    exact bodyPost_ret (v := .tuple #[mkRule ⟨#[99, 97, 108, 108]⟩ ⟨true, true, false, true, true⟩ 67 68, .bool true]) (by simp [results, mkRule, Tryd.results46, go_sem]) rfl ⟨(Below.refl _ _).alloc (Nat.le_refl _) _, rfl⟩
  by_cases h29 : k = 29
  · subst h29
    clear h h1 h2 h20 h21 h22 h23 h24 h25 h26 h27 h28
    go_enter Tryd.func46, Tryd.ntmps46
    go_wp2
    exact bodyPost_ret (v := .tuple #[mkRule ⟨#[98, 117, 105, 108, 116]⟩ ⟨true, false, false, true, true⟩ 67 74, .bool true]) (by simp [results, mkRule, Tryd.results46, go_sem]) rfl ⟨(Below.refl _ _).alloc (Nat.le_refl _) _, rfl⟩
  have he : ruleI k = none := by
    unfold ruleI
    rw [if_neg h]
    simp only [h1, h2, h20, h21, h22, h23, h24, h25, h26, h27, h28, h29, or_self, if_false]
  have HE := Lib.hid he
  have t1 : (k == 1) = false := by simpa using h1
  have t2 : (k == 2) = false := by simpa using h2
  have t20 : (k == 20) = false := by simpa using h20
  have t21 : (k == 21) = false := by simpa using h21
  have t22 : (k == 22) = false := by simpa using h22
  have t23 : (k == 23) = false := by simpa using h23
  have t24 : (k == 24) = false := by simpa using h24
  have t25 : (k == 25) = false := by simpa using h25
  have t26 : (k == 26) = false := by simpa using h26
  have t27 : (k == 27) = false := by simpa using h27
  have t28 : (k == 28) = false := by simpa using h28
  have t29 : (k == 29) = false := by simpa using h29
  rcases (show k < 3 ∨ 19 < k by omega) with h0 | h0 <;>
  · clear he h h1 h2 h20 h21 h22 h23 h24 h25 h26 h27 h28 h29
    go_enter Tryd.func46, Tryd.ntmps46
    go_wp2
    refine bodyPost_ret (v := .tuple #[noRule, .bool false]) (by simp [results, noRule, Tryd.results46, go_sem]) rfl ?_
    unfold RuleEnd
    rw [HE.out]
    exact ⟨(Below.refl _ _).alloc (Nat.le_refl _) _, rfl⟩
end Go.Proofs.YtlomdlblohnfmaaDoor

