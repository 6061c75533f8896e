/- What is wrong with structs; with a type, and structs: the program, and the reference. -/
import Derived.Test.YtkokdafkjjcgoaaGreatDoorRefStructs
import Derived.Test.YtkokdafkjjcgoaaGreatDoorAddM
namespace Go.Proofs.YtkokdafkjjcgoaaGreatDoor
open Go.RowKit

/-- what Check tells -/
def checkN (L : List Sr) (s : ByteArray) : Int := match learnK L with
  | .inl (_, c) => c
  | .inr K => checkS K s
theorem checkN_bad {L : List Sr} {s : ByteArray} {i : Nat} {c : Int} (h : learnK L = .inl (i, c)) : checkN L s = c := by unfold checkN; rw [h]
theorem checkN_ok {L : List Sr} {s : ByteArray} {K : List Kn} (h : learnK L = .inr K) : checkN L s = checkS K s := by unfold checkN; rw [h]
theorem learnF_ne : ∀ (l : List Sr) (K : List Kn) {i : Nat} {c : Int}, learnF K l = .inl (i, c) → c ≠ 0
  | [], _, _, _, h => by rw [learnF] at h; cases h
  | x :: l, K, i, c, h => by
    rw [learnF] at h
    split at h
    · rename_i e he
      have := Sum.inl.inj h
      have h2 : e = c := (Prod.mk.inj this).2
      subst h2
      exact addK_ne he
    · exact learnF_ne l _ h
theorem learnK_ne {L : List Sr} {i : Nat} {c : Int} (h : learnK L = .inl (i, c)) : c ≠ 0 := by
  unfold learnK at h
  split at h
  · have h2 : (3 : Int) = c := (Prod.mk.inj (Sum.inl.inj h)).2
    subst h2; decide
  · exact learnF_ne _ _ h
theorem fault_blk (w : World) (x y : Value) : (w.alloc (.cells #[x, y] 68)).heap[w.heap.size]? = some (.cells #[x, y] 68 (0, 0)) := heap_alloc_new _ _

set_option maxRecDepth 100000 in
set_option maxHeartbeats 4000000 in
theorem refCheckAll_ok (s : ByteArray) (a : Option Addr) (cap : Nat) (L : List Sr) (mv : List Value) (w : World) (hS : IsSrs w.heap.size w a L mv) (hcap : L.length ≤ cap) (hcm : cap ≤ maxLen) :
    Calls Tryz.prog 128 #[.string s, .slice a L.length cap] w fun e w' => e = .returned (.int .i64 (checkN L s)) ∧ Below w.heap.size w w' := by
  have HS := Lib.hid hS
  have HSt := Lib.hid (refStructs_ok a cap L mv w hS hcap hcm)
  clear hS
  rcases hl : learnK L with ⟨i, c⟩ | K
  · have hf := faultN_bad hl
    have hc0 := learnK_ne hl
    have hfin := Lib.hid (checkN_bad (s := s) hl)
    have HSt2 := Lib.hid (show Calls Tryz.prog 76 #[.slice a L.length cap] w (fun e w' => e = .returned (.agg #[.int .i64 (i : Int), .int .i64 c]) ∧ Below w.heap.size w w') from HSt.out.mono fun e w' h => by unfold StructsEnd at h; rw [hf] at h; exact h)
    have t1 : (c != 0) = true := by simp [hc0]
    clear hf hc0 hl
    go_enter Tryz.func128, Tryz.ntmps128
    go_wp2_with (go_at_call 76; (with_reducible refine HSt2.out.mono ?_); rintro e w1 ⟨rfl, hb1⟩; obtain ⟨⟨d0, d1⟩, _⟩ := two_block (fault_blk w1 (.int .i64 (i : Int)) (.int .i64 c)); have HB1 := Lib.hid (hb1.alloc hb1.size (.cells #[.int .i64 (i : Int), .int .i64 c] 68)); clear hb1)
    go_ret
    exact ⟨by rw [hfin.out]; rfl, HB1.out⟩
  · have hk := learnK_knows hl
    have hf := faultN_ok hl
    have hfin := Lib.hid (checkN_ok (s := s) hl)
    have HSt2 := Lib.hid (show Calls Tryz.prog 76 #[.slice a L.length cap] w (fun e w' => e = .returned (.agg #[.int .i64 0, .int .i64 0]) ∧ Below w.heap.size w w') from HSt.out.mono fun e w' h => by unfold StructsEnd at h; rw [hf] at h; exact h)
    have HCk := Lib.hid (fun w1 (hb : Below w.heap.size w w1) => refCheckT_ok K L a cap mv hk.good hk.fit hk.list s w1 ((HS.out.below hb).mono hb.size))
    clear hf hk hl
    generalize checkS K s = c at *
    go_enter Tryz.func128, Tryz.ntmps128
    go_wp2_with (go_at_call 76; (with_reducible refine HSt2.out.mono ?_); rintro e w1 ⟨rfl, hb1⟩; obtain ⟨⟨d0, d1⟩, _⟩ := two_block (fault_blk w1 (.int .i64 0) (.int .i64 0)); have hb2 := hb1.alloc hb1.size (.cells #[.int .i64 0, .int .i64 0] 68); have HB1 := Lib.hid hb2; have HC1 := Lib.hid (HCk.out _ hb2); clear hb1 hb2)
    go_wp2_with (go_at_call 171; (with_reducible refine HC1.out.mono ?_); rintro e w3 ⟨rfl, hb3⟩; have HB3 := Lib.hid (HB1.out.trans (hb3.mono HB1.out.size)); clear hb3)
    go_ret
    exact ⟨by rw [hfin.out]; rfl, HB3.out⟩

end Go.Proofs.YtkokdafkjjcgoaaGreatDoor

