/- What is wrong with structs; with a type, and structs: the program, and the reference. -/
import Derived.Test.YtmmjmppfmjejkaaGreatDoorRefStructs
import Derived.Test.YtmmjmppfmjejkaaGreatDoorSize
namespace Go.Proofs.YtmmjmppfmjejkaaGreatDoor
open Go.RowKit

/-- what Check tells -/
def checkN (L : List Sr) (s : ByteArray) : Int := match learnK L with
  | .inl (_, c) => c
  | .inr K => checkS K s
theorem checkN_bad {L : List Sr} {s : ByteArray} {i : Nat} {c : Int} (h : learnK L = .inl (i, c)) : checkN L s = c := by unfold checkN; rw [h]
theorem checkN_ok {L : List Sr} {s : ByteArray} {K : List Kn} (h : learnK L = .inr K) : checkN L s = checkS K s := by unfold checkN; rw [h]
theorem learnF_ne : ∀ (l : List Sr) (K : List Kn) {i : Nat} {c : Int}, learnF K l = .inl (i, c) → c ≠ 0
  | [], _, _, _, h => by rw [learnF] at h; cases h
  | x :: l, K, i, c, h => by
    rw [learnF] at h
    split at h
    · rename_i e he
      have := Sum.inl.inj h
      have h2 : e = c := (Prod.mk.inj this).2
      subst h2
      exact addK_ne he
    · exact learnF_ne l _ h
theorem learnK_ne {L : List Sr} {i : Nat} {c : Int} (h : learnK L = .inl (i, c)) : c ≠ 0 := by
  unfold learnK at h
  split at h
  · have h2 : (3 : Int) = c := (Prod.mk.inj (Sum.inl.inj h)).2
    subst h2; decide
  · exact learnF_ne _ _ h
theorem fault_blk (w : World) (x y : Value) : (w.alloc (.cells #[x, y] 27)).heap[w.heap.size]? = some (.cells #[x, y] 27 (0, 0)) := heap_alloc_new _ _

set_option maxRecDepth 100000 in
set_option maxHeartbeats 4000000 in
theorem refCheckAll_ok (s : ByteArray) (a : Option Addr) (cap : Nat) (L : List Sr) (mv : List Value) (w : World) (hS : IsSrs w.heap.size w a L mv) (hcap : L.length ≤ cap) (hcm : cap ≤ maxLen) :
    Calls Tryz.prog 12 #[.string s, .slice a L.length cap] w fun e w' => e = .returned (.int .i64 (checkN L s)) ∧ Below w.heap.size w w' := by
  have HS := Lib.hid hS
  have HSt := Lib.hid (refStructs_ok a cap L mv w hS hcap hcm)
  clear hS
  rcases hl : learnK L with ⟨i, c⟩ | K
  · have hf := faultN_bad hl
    have hc0 := learnK_ne hl
    have hfin := Lib.hid (checkN_bad (s := s) hl)
    have HSt2 := Lib.hid (show Calls Tryz.prog 11 #[.slice a L.length cap] w (fun e w' => e = .returned (.agg #[.int .i64 (i : Int), .int .i64 c]) ∧ Below w.heap.size w w') from HSt.out.mono fun e w' h => by unfold StructsEnd at h; rw [hf] at h; exact h)
    have t1 : (c != 0) = true := by simp [hc0]
    clear hf hc0 hl
    go_enter Tryz.func12, Tryz.ntmps12
    go_wp2_with (go_at_call 11; (with_reducible refine HSt2.out.mono ?_); rintro e w1 ⟨rfl, hb1⟩; obtain ⟨⟨d0, d1⟩, _⟩ := two_block (fault_blk w1 (.int .i64 (i : Int)) (.int .i64 c)); have HB1 := Lib.hid (hb1.alloc hb1.size (.cells #[.int .i64 (i : Int), .int .i64 c] 27)); clear hb1)
    go_ret
    exact ⟨by rw [hfin.out]; rfl, HB1.out⟩
  · have hk := learnK_knows hl
    have hf := faultN_ok hl
    have hfin := Lib.hid (checkN_ok (s := s) hl)
    have HSt2 := Lib.hid (show Calls Tryz.prog 11 #[.slice a L.length cap] w (fun e w' => e = .returned (.agg #[.int .i64 0, .int .i64 0]) ∧ Below w.heap.size w w') from HSt.out.mono fun e w' h => by unfold StructsEnd at h; rw [hf] at h; exact h)
    have HCk := Lib.hid (fun w1 (hb : Below w.heap.size w w1) => refCheckT_ok K L a cap mv hk.good hk.fit hk.list s w1 ((HS.out.below hb).mono hb.size))
    clear hf hk hl
    generalize checkS K s = c at *
    go_enter Tryz.func12, Tryz.ntmps12
    go_wp2_with (go_at_call 11; (with_reducible refine HSt2.out.mono ?_); rintro e w1 ⟨rfl, hb1⟩; obtain ⟨⟨d0, d1⟩, _⟩ := two_block (fault_blk w1 (.int .i64 0) (.int .i64 0)); have hb2 := hb1.alloc hb1.size (.cells #[.int .i64 0, .int .i64 0] 27); have HB1 := Lib.hid hb2; have HC1 := Lib.hid (HCk.out _ hb2); clear hb1 hb2)
    go_wp2_with (go_at_call 38; (with_reducible refine HC1.out.mono ?_); rintro e w3 ⟨rfl, hb3⟩; have HB3 := Lib.hid (HB1.out.trans (hb3.mono HB1.out.size)); clear hb3)
    go_ret
    exact ⟨by rw [hfin.out]; rfl, HB3.out⟩

set_option maxRecDepth 100000 in
set_option maxHeartbeats 4000000 in
theorem checkAll_ok (s : ByteArray) (a : Option Addr) (cap : Nat) (L : List Sr) (mv : List Value) (w : World) (hE : TE w) (hS : IsSrs w.heap.size w a L mv) :
    Calls Tryz.prog 8 #[.string s, .slice a L.length cap] w fun e w' => e = .returned (.int .i64 (checkN L s)) ∧ Below w.heap.size w w' := by
  have HE := Lib.hid hE
  have HL := Lib.hid (learn_ok a cap L mv w hE hS)
  clear hE hS
  go_enter Tryz.func8, Tryz.ntmps8
  go_wp2_with (go_at_call 33; (with_reducible refine HL.out.mono ?_))
  intro e w1 hend
  obtain ⟨hb1, ⟨i, c, hl, hc, rfl⟩ | ⟨K, b, mb, lv, sv, av, hl, rfl, hF, hkn⟩⟩ := hend
  · have hfin := Lib.hid (checkN_bad (s := s) hl)
    have t1 : (c != 0) = true := by simp [hc]
    have HB1 := Lib.hid hb1
    clear hl hc hb1
    go_wp2_with fail
    go_ret
    exact ⟨by rw [hfin.out]; rfl, HB1.out.alloc HB1.out.size _⟩
  · have HB1 := Lib.hid hb1
    have hg : Below (w1.heap.size) w1 (w1.alloc (.cells #[.int .i64 0, .int .i64 0] 27)) := (Below.refl _ _).alloc (Nat.le_refl _) _
    have HG := Lib.hid (hb1.trans (hg.mono hb1.size))
    have HC := Lib.hid (check_ok s _ (HE.out.below HG.out) (hkn.below hg) hF)
    have hfin := Lib.hid (checkN_ok (s := s) hl)
    clear hkn hb1 hg hF hl
    generalize checkS K s = c at *
    go_wp2_with (go_at_call 34; (with_reducible refine HC.out.mono ?_); rintro e w5 ⟨rfl, hb5⟩; have HB5 := Lib.hid (HG.out.trans (hb5.mono HG.out.size)); clear hb5)
    go_ret
    exact ⟨by rw [hfin.out]; rfl, HB5.out⟩

set_option maxRecDepth 100000 in
set_option maxHeartbeats 4000000 in
theorem structs_ok (a : Option Addr) (cap : Nat) (L : List Sr) (mv : List Value) (w : World) (hE : TE w) (hS : IsSrs w.heap.size w a L mv) :
    Calls Tryz.prog 7 #[.slice a L.length cap] w (StructsEnd L w) := by
  have HE := Lib.hid hE
  have HS := Lib.hid hS
  clear hE hS
  have hat := fault_blk w (.int .i64 0) (.int .i64 0)
  have hb1 : Below w.heap.size w (w.alloc (.cells #[.int .i64 0, .int .i64 0] 27)) := (Below.refl _ _).alloc (Nat.le_refl _) _
  go_enter Tryz.func7, Tryz.ntmps7
  go_upto_region 1 with fail
  generalize w.alloc (.cells #[.int .i64 0, .int .i64 0] 27) = w0 at *
  have HAt := Lib.hid hat
  have HB0 := Lib.hid hb1
  have hz0 := lt_of_heap hat
  have HL0 := Lib.hid (show Calls Tryz.prog 33 #[.slice a L.length cap] w0 (fun e w' => (∃ p : Value, e = .returned (.tuple #[p, .agg #[.int .i64 (faultN L).1, .int .i64 (faultN L).2]])) ∧ Below w0.heap.size w0 w') from (learn_ok a cap L mv w0 (HE.out.below hb1) ((HS.out.below hb1).mono hb1.size)).mono fun e w' h => by
    obtain ⟨hb, ⟨i, c, hl, hc, rfl⟩ | ⟨K, b, mb, lv, sv, av, hl, rfl, hF, hkn⟩⟩ := h
    · exact ⟨⟨_, by rw [faultN_bad hl]⟩, hb⟩
    · exact ⟨⟨_, by rw [faultN_ok hl]⟩, hb⟩)
  have HF := Lib.hid (show faultN L = ((faultN L).1, (faultN L).2) from rfl)
  generalize (faultN L).1 = x at *
  generalize (faultN L).2 = c at *
  clear hat hb1
  go_upto_region 2 with (go_at_call 33; (with_reducible refine HL0.out.mono ?_); rintro e w1 ⟨⟨p, rfl⟩, hb1⟩; have HB1 := Lib.hid hb1; clear hb1)
  have hb2 : Below w1.heap.size w1 (w1.alloc (.cells #[.int .i64 x, .int .i64 c] 27)) := (Below.refl _ _).alloc (Nat.le_refl _) _
  have hk := fault_blk w1 (.int .i64 x) (.int .i64 c)
  generalize w1.alloc (.cells #[.int .i64 x, .int .i64 c] 27) = w2 at *
  obtain ⟨⟨k0, k1⟩, _⟩ := two_block hk
  have h31 := (HB1.out.block _ hz0).trans HAt.out
  obtain ⟨⟨d0, d1⟩, fd⟩ := two_block ((hb2.block _ (lt_of_heap h31)).trans h31)
  have fd0 := fd 0
  have fd1 := fd 1
  have HB2 := Lib.hid (HB0.out.trans ((HB1.out.trans (hb2.mono HB1.out.size)).mono HB0.out.size))
  clear fd h31 hb2 hk
  go_wp2_with fail
  exact bodyPost_ret (v := .agg #[.int .i64 x, .int .i64 c]) (by simp [results, Tryz.results7, go_sem, d0, d1]) rfl (structsEnd HF.out (set_fault HB2.out _ _))
end Go.Proofs.YtmmjmppfmjejkaaGreatDoor
