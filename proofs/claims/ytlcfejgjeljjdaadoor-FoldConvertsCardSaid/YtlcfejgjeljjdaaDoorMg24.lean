/- Constant expressions: the program. · The law's own example: the program. -/
import Derived.Test.YtlcfejgjeljjdaaDoorFoldZ
import Derived.Test.YtlcfejgjeljjdaaDoorFoldQ
import Derived.Test.YtlcfejgjeljjdaaDoorMg16
namespace Go.Proofs.YtlcfejgjeljjdaaDoor
open Go.RowKit

/-- what is wrong with a tree and structs -/
def startN (t : List Nd) (L : List Sr) : Int := if checkN9 t ≠ 0 then checkN9 t else if exprK (kindAt t (t.length - 1)) = false then 5 else (faultN L).2
/-- the tree that a list of nodes is -/
def trOf (t : List Nd) : Tr := trAt t ((beginsN t).getD []) (t.length - 1)
/-- what a constant expression comes to -/
def evalX (t : List Nd) (L : List Sr) : Int × ByteArray × Int := if startN t L ≠ 0 then (0, ⟨#[]⟩, startN t L) else match constT L (trOf t) with
  | none => (0, ⟨#[]⟩, 120)
  | some v => (v.2, v.1, 0)
theorem startN_0 {t : List Nd} {L : List Sr} (h : startN t L = 0) : checkN9 t = 0 ∧ exprK (kindAt t (t.length - 1)) = true ∧ (faultN L).2 = 0 := by
  unfold startN at h
  split at h
  · rename_i h1; exact absurd h h1
  rename_i h1
  split at h
  · cases h
  rename_i h2
  exact ⟨by simpa using h1, by simpa using h2, h⟩
theorem startN_good {t : List Nd} {L : List Sr} {fr : List Nat} (h : startN t L = 0) (hb : beginsN t = some fr) : GoodT (trAt t fr (t.length - 1)) := by
  obtain ⟨h1, h2, _⟩ := startN_0 h
  have := (formed_of hb).pos
  exact good_of h1 hb (by omega) h2
section
variable (a : Option Addr) (cap : Nat) (t : List Nd) (l : Option Addr) (lc : Nat) (L : List Sr) (mv : List Value) (w : World) (hE : TE w) (hI : IsNds w.heap.size w a t) (hOk : ∀ x ∈ t, NdOk x) (hz : t.length * 64 ≤ 140737488351232) (hS : IsSrs w.heap.size w l L mv)
/-- how start ends -/
def StartEnd (e : Ending) (w' : World) : Prop :=
  (if startN t L ≠ 0 then e = .returned (.tuple #[.pointer none, .int .i64 (startN t L)])
   else ∃ (f : Nat) (b : Option Addr) (cb : Nat) (fr : List Nat), e = .returned (.tuple #[.pointer (some ⟨f, 0, none⟩), .int .i64 0]) ∧ FoldAt w'.heap.size w' f a cap t l lc L mv b cb fr ∧ beginsN t = some fr) ∧ Below w.heap.size w w'
theorem startEnd_no {w' : World} {c : Int} (h : startN t L = c) (hc : c ≠ 0) (hb : Below w.heap.size w w') : StartEnd a cap t l lc L mv w (.returned (.tuple #[.pointer none, .int .i64 c])) w' := by
  unfold StartEnd
  rw [if_pos (by rw [h]; exact hc), h]
  exact ⟨rfl, hb⟩
include hE hI hOk hz hS
set_option maxHeartbeats 4000000 in
theorem start_ok : Calls Tryd.prog 18 #[.slice a t.length cap, .slice l L.length lc] w (StartEnd a cap t l lc L mv w) := by
  have hmx : (t.length : Int) ≤ 2199023255488 := by omega
  have HC := Lib.hid (treeCheck_ok a cap t w hE hI hOk hz)
  by_cases hc : checkN9 t = 0
  · rw [hc] at HC
    obtain ⟨fr, hbe, hG⟩ := check_formed hc
    have hle := hG.le
    obtain ⟨k, hk⟩ : ∃ k, t.length = k + 1 := ⟨t.length - 1, by have := hG.formed.pos; omega⟩
    have hk1 : (t.length : Int) - 1 = (k : Int) := by omega
    have hkl : k < t.length := by omega
    have hkd := kindAt_is (List.getElem?_eq_getElem hkl)
    obtain ⟨ba, off, ha, hbl, x0, _⟩ := nds_at hI hkl
    subst ha
    have HI := Lib.hid hI
    have HE := Lib.hid hE
    have HS := Lib.hid hS
    have HCx := Lib.hid (fun w' (h : Below w.heap.size w w') => show w'.cell? ⟨ba, off + k * 6, none⟩ = some (.int .i64 t[k].kind) from by rw [h.cell hbl]; exact x0)
    have HFl := Lib.hid hbe
    have HSN := Lib.hid (show startN t L = if exprK t[k].kind = false then 5 else (faultN L).2 from by unfold startN; rw [if_neg (show ¬ checkN9 t ≠ 0 by simp [hc]), hk, Nat.add_sub_cancel, hkd])
    have HFr := Lib.hid (fun w' (h : Below w.heap.size w w') => fronts_ok (some ⟨ba, off, none⟩) cap t fr w' ((HI.out.below h (Nat.le_refl _)).mono h.size) hle hbe)
    have HSt := Lib.hid (fun w' (h : Below w.heap.size w w') => structs_ok l lc L mv w' (HE.out.below h) ((HS.out.below h).mono h.size))
    unfold StructsEnd at HSt
    clear hE hI hOk hS hc hbe hG x0 hkd hk
    generalize hkk : t[k].kind = kk at *
    go_enter Tryd.func18, Tryd.ntmps18
    go_upto_region 4 with (go_at_call 12; (with_reducible refine HC.out.mono ?_); rintro e w1 ⟨rfl, hb1⟩; have HB1 := Lib.hid hb1; clear hb1)
    have x0 := HCx.out _ HB1.out
    by_cases hlo : kk < 1
    · have t1 : decide (kk < 1) = true := by simpa using hlo
      have HN := Lib.hid (show startN t L = 5 from by rw [HSN.out, if_pos (by unfold exprK; simp; omega)])
      clear hlo
      go_wp2_with fail
      go_ret2
      exact startEnd_no _ _ _ _ _ _ _ _ HN.out (by decide) HB1.out
    have t1 : decide (kk < 1) = false := by simpa using hlo
    by_cases hhi : 17 < kk
    · have t2 : decide (17 < kk) = true := by simpa using hhi
      have HN := Lib.hid (show startN t L = 5 from by rw [HSN.out, if_pos (by unfold exprK; simp; omega)])
      clear hhi hlo
      go_wp2_with fail
      go_ret2
      exact startEnd_no _ _ _ _ _ _ _ _ HN.out (by decide) HB1.out
    have t2 : decide (17 < kk) = false := by simpa using hhi
    have HN := Lib.hid (show startN t L = (faultN L).2 from by rw [HSN.out, if_neg (by unfold exprK; simp; omega)])
    clear hhi hlo
    generalize faultN L = fl at *
    obtain ⟨fi, fc⟩ := fl
    simp only at HSt HN
    have HS1 := Lib.hid (HSt.out _ HB1.out)
    go_upto_region 8 with (go_at_call 33; (with_reducible refine HS1.out.mono ?_); rintro e w2 ⟨rfl, hb2⟩; have HB2 := Lib.hid (HB1.out.trans (hb2.mono HB1.out.size)); clear hb2)
    obtain ⟨⟨q0, q1⟩, _⟩ := two_block (fault_blk w2 (.int .i64 fi) (.int .i64 fc))
    have HB3 := Lib.hid (HB2.out.alloc HB2.out.size (.cells #[.int .i64 fi, .int .i64 fc] 75))
    generalize w2.alloc (.cells #[.int .i64 fi, .int .i64 fc] 75) = w3 at *
    by_cases hf0 : fc = 0
    · subst hf0
      have HFr3 := Lib.hid (HFr.out _ HB3.out)
      go_upto_region 10 with fail
      go_wp2_with (go_at_call 34; (with_reducible refine HFr3.out.mono ?_); rintro e w4 ⟨⟨v, rfl, hrow⟩, hb4⟩; obtain ⟨pa, pc, rfl, hps, _⟩ := hrow.is; have HPs := Lib.hid hps; have HB4 := Lib.hid (HB3.out.trans (hb4.mono HB3.out.size)); clear hrow hps hb4)
      go_ret2
      have hbx : Below w4.heap.size w4 (w4.alloc (.cells #[.slice (some ⟨ba, off, none⟩) t.length cap, .slice l L.length lc, .slice pa fr.length pc] 79)) := ba1 _ _
      have hby := HB4.out.trans (hbx.mono HB4.out.size)
      unfold StartEnd
      rw [if_neg (show ¬ startN t L ≠ 0 by rw [HN.out]; simp)]
      exact ⟨⟨_, pa, pc, fr, rfl, ⟨heap_alloc_new _ _, by simp, (HI.out.below hby (Nat.le_refl _)).mono hby.size, (HPs.out.below hbx (Nat.le_refl _)).mono hbx.size, (HS.out.below hby).mono hby.size, HE.out.below hby, Nat.le_refl _⟩, HFl.out⟩, hby⟩
    · have t3 : (fc != 0) = true := by simpa using hf0
      have HN0 := Lib.hid hf0
      clear hf0
      go_upto_region 9 with fail
      go_quiet (fail)
      go_wp2_with fail
      go_ret2
      exact startEnd_no _ _ _ _ _ _ _ _ HN.out HN0.out (HB3.out.trans ((Below.drewN' _ _).mono HB3.out.size))
  · have HN := Lib.hid (show startN t L = checkN9 t from by unfold startN; rw [if_pos hc])
    have HN0 := Lib.hid hc
    have t1 : (checkN9 t != 0) = true := by simpa using hc
    clear hE hI hOk hS hc
    generalize checkN9 t = c at *
    go_enter Tryd.func18, Tryd.ntmps18
    go_wp2_with (go_at_call 12; (with_reducible refine HC.out.mono ?_); rintro e w1 ⟨rfl, hb1⟩; have HB1 := Lib.hid hb1; clear hb1)
    go_ret2
    exact startEnd_no _ _ _ _ _ _ _ _ HN.out HN0.out HB1.out
theorem start_0 (hc : startN t L = 0) : Calls Tryd.prog 18 #[.slice a t.length cap, .slice l L.length lc] w fun e w' => (∃ (f : Nat) (b : Option Addr) (cb : Nat) (fr : List Nat), e = .returned (.tuple #[.pointer (some ⟨f, 0, none⟩), .int .i64 0]) ∧ FoldAt w'.heap.size w' f a cap t l lc L mv b cb fr ∧ beginsN t = some fr) ∧ Below w.heap.size w w' :=
  (start_ok a cap t l lc L mv w hE hI hOk hz hS).mono fun e w' h => by unfold StartEnd at h; rw [if_neg (show ¬ startN t L ≠ 0 by simp [hc])] at h; exact h
theorem start_n (hc : startN t L ≠ 0) : Calls Tryd.prog 18 #[.slice a t.length cap, .slice l L.length lc] w fun e w' => e = .returned (.tuple #[.pointer none, .int .i64 (startN t L)]) ∧ Below w.heap.size w w' :=
  (start_ok a cap t l lc L mv w hE hI hOk hz hS).mono fun e w' h => by unfold StartEnd at h; rw [if_pos hc] at h; exact h
set_option maxHeartbeats 4000000 in
theorem evalC_ok : Calls Tryd.prog 13 #[.slice a t.length cap, .slice l L.length lc] w fun e w' => e = .returned (trip (evalX t L)) ∧ Below w.heap.size w w' := by
  have hmx : (t.length : Int) ≤ 2199023255488 := by omega
  by_cases hc : startN t L = 0
  · have HSt := Lib.hid (start_0 a cap t l lc L mv w hE hI hOk hz hS hc)
    obtain ⟨h1, _, _⟩ := startN_0 hc
    obtain ⟨fr, hbe, hG⟩ := check_formed h1
    have hpos := hG.formed.pos
    obtain ⟨k, hk⟩ : ∃ k, t.length = k + 1 := ⟨t.length - 1, by omega⟩
    have hk1 : (t.length : Int) - 1 = (k : Int) := by omega
    have HX := Lib.hid (show evalX t L = match constT L (trAt t fr k) with | none => (0, ⟨#[]⟩, 120) | some v => (v.2, v.1, 0) from by
      unfold evalX trOf; rw [if_neg (show ¬ startN t L ≠ 0 by simp [hc]), hbe, hk, Nat.add_sub_cancel]; rfl)
    have HCo := Lib.hid (fun (w' : World) (f : Nat) (b : Option Addr) (cb : Nat) (h : FoldAt w'.heap.size w' f a cap t l lc L mv b cb fr) => constant_ok hG.le hbe k (by omega) (by have := startN_good hc hbe; rw [hk, Nat.add_sub_cancel] at this; exact this) w' h)
    have HBe := Lib.hid hbe
    clear hE hI hOk hS hc hbe hG h1 hk
    generalize constT L (trAt t fr k) = r at *
    go_enter Tryd.func13, Tryd.ntmps13
    go_upto_region 4 with (go_at_call 18; (with_reducible refine HSt.out.mono ?_); rintro e w1 ⟨⟨f, b, cb, fr', rfl, hfo, hbe'⟩, hb1⟩; have HFo := Lib.hid hfo; have HBe' := Lib.hid hbe'; have HB1 := Lib.hid hb1; clear hfo hbe' hb1)
    obtain rfl : fr' = fr := Option.some.inj (HBe'.out.symm.trans HBe.out)
    have HC1 := Lib.hid (HCo.out w1 f b cb HFo.out)
    rcases r with _ | ⟨rt, rn⟩
    · have HC2 := Lib.hid (evalRaw0 HC1.out)
      go_wp2_with (go_at_call 21; (with_reducible refine HC2.out.mono ?_); rintro e w4 ⟨⟨vt, vn, rfl⟩, hb4⟩; have HB4 := Lib.hid (HB1.out.trans (hb4.mono HB1.out.size)); clear hb4)
      go_ret3
      exact ⟨by rw [HX.out]; rfl, HB4.out.alloc HB4.out.size _⟩
    · have HC2 := Lib.hid (evalRaw1 HC1.out)
      go_upto_region 7 with (go_at_call 21; (with_reducible refine HC2.out.mono ?_); rintro e w4 ⟨rfl, hb4⟩; have HB4 := Lib.hid (HB1.out.trans (hb4.mono HB1.out.size)); clear hb4)
      obtain ⟨⟨q0, q1⟩, _⟩ := (numAt_new w4 (rt, rn)).cells
      go_quiet (fail)
      go_wp2_with fail
      go_ret3
      exact ⟨by rw [HX.out]; rfl, (HB4.out.alloc HB4.out.size _).trans ((Below.drewN' _ _).mono (HB4.out.alloc HB4.out.size _).size)⟩
  · have HSt := Lib.hid (start_n a cap t l lc L mv w hE hI hOk hz hS hc)
    have HX := Lib.hid (show evalX t L = (0, ⟨#[]⟩, startN t L) from by unfold evalX; rw [if_pos hc])
    have t1 : (startN t L != 0) = true := by simpa using hc
    clear hE hI hOk hS hc
    generalize startN t L = c at *
    go_enter Tryd.func13, Tryd.ntmps13
    go_wp2_with (go_at_call 18; (with_reducible refine HSt.out.mono ?_); rintro e w1 ⟨rfl, hb1⟩; have HB1 := Lib.hid hb1; clear hb1)
    go_ret3
    exact ⟨by rw [HX.out]; rfl, HB1.out⟩
end
end Go.Proofs.YtlcfejgjeljjdaaDoor
namespace Go.Proofs.YtlcfejgjeljjdaaDoor
open Go.RowKit

theorem nds_lit {w : World} {b : Nat} {T : TypeId} {cs : Array Value} {t : List Nd} (h : w.heap[b]? = some (.cells cs T (0, 0))) (hc : cs.toList = t.flatMap ndCells) : IsNds w.heap.size w (some ⟨b, 0, none⟩) t := fun _ =>
  ⟨b, 0, rfl, lt_of_heap h, fun i x hx j u hu => by
    have := flat_at (k := 6) (cells := ndCells) (fun _ => rfl) hx hu
    rw [← hc] at this
    simp [World.cell?, h]
    simpa using this⟩
def num12 (n : Int) : Nd := ⟨1, 0, 0, n, ⟨#[]⟩, iText12⟩
def exT : List Nd := [num12 1, num12 2, num12 3, num12 0, ⟨7, 2, 0, 0, mDiv, ⟨#[]⟩⟩, ⟨9, 3, 0, 0, ⟨#[]⟩, ⟨#[]⟩⟩]
theorem ex_start : startN exT [] = 0 := by decide +kernel
theorem ex_begins : beginsN exT = some [0, 1, 2, 3, 2, 0] := by decide +kernel
theorem ex_eval : evalX exT [] = (2, iText12, 0) := by
  unfold evalX
  rw [if_neg (show ¬ startN exT [] ≠ 0 by simp [ex_start])]
  have : constT [] (trOf exT) = some (iText12, 2) := by
    unfold trOf
    rw [ex_begins]
    decide +kernel
  rw [this]
theorem ex_conv : convE 200 cText12 = (-56, 0) := by decide +kernel
theorem num_ok (n : Int) (w : World) : Calls Tryd.prog 14 #[.int .i64 n] w fun e w' => e = .returned (.agg #[.int .i64 1, .int .i64 0, .int .i64 0, .int .i64 n, .string ⟨#[]⟩, .string ⟨#[105]⟩]) ∧ Below w.heap.size w w' := by
  have hq := nodeAt_new w ⟨0, 0, 0, 0, ⟨#[]⟩, ⟨#[]⟩⟩
  have hb := ba1 w (ndObj ⟨0, 0, 0, 0, ⟨#[]⟩, ⟨#[]⟩⟩)
  simp only [ndObj] at hq hb
  go_enter Tryd.func14, Tryd.ntmps14
  go_upto_region 1 with fail
  generalize w.alloc (.cells #[.int .i64 0, .int .i64 0, .int .i64 0, .int .i64 0, .string ⟨#[]⟩, .string ⟨#[]⟩] 43) = w1 at *
  obtain ⟨⟨x0, x1, x2, x3, x4, x5⟩, xf⟩ := six_block hq
  have f0 := xf 0
  have f1 := xf 1
  have f2 := xf 2
  have f3 := xf 3
  have f4 := xf 4
  have f5 := xf 5
  have HB := Lib.hid hb
  clear xf hq hb
  go_wp2_with fail
  exact bodyPost_ret (v := .agg #[.int .i64 1, .int .i64 0, .int .i64 0, .int .i64 n, .string ⟨#[]⟩, .string ⟨#[105]⟩]) (by simp [results, Tryd.results14, go_sem, x0, x1, x2, x3, x4, x5]) rfl ⟨rfl, below_set6 HB.out (Nat.le_refl w.heap.size) ⟨1, 0, 0, n, ⟨#[]⟩, ⟨#[105]⟩⟩⟩
set_option maxRecDepth 100000 in
set_option maxHeartbeats 4000000 in
theorem works12_ok (w : World) (hE : TE w) : Calls Tryd.prog 6 #[] w fun e w' => e = .returned (.bool true) ∧ Below w.heap.size w w' := by
  have HE := Lib.hid hE
  have HNum := Lib.hid (fun n w => num_ok n w)
  have HCv := Lib.hid (fun w => convert_ok 200 ⟨#[99]⟩ w)
  have e1 : convE 200 ⟨#[99]⟩ = (-56, 0) := ex_conv
  rw [e1] at HCv
  have HEv := Lib.hid (fun (w : World) (a : Option Addr) (hE : TE w) (hI : IsNds w.heap.size w a exT) => show Calls Tryd.prog 13 #[.slice a 6 6, .slice none 0 0] w (fun e w' => e = .returned (.tuple #[.int .i64 2, .string ⟨#[105]⟩, .int .i64 0]) ∧ Below w.heap.size w w') from by
    have := evalC_ok a 6 exT none 0 [] [] w hE hI (by intro x hx; simp [exT, num12] at hx; rcases hx with rfl | rfl | rfl | rfl | rfl | rfl <;> (refine ⟨?_, ?_, ?_, ?_⟩ <;> (unfold i64In; decide))) (by decide) ⟨rfl, fun h => absurd rfl h, fun x hx => by cases hx⟩
    rw [ex_eval] at this
    exact this)
  clear hE e1
  go_enter Tryd.func6, Tryd.ntmps6
  go_upto_region 2 with (first
    | (go_at_call_of 14 (1 : Int); (with_reducible refine (HNum.out _ _).mono ?_); rintro e w1 ⟨rfl, hb1⟩; have HB1 := Lib.hid hb1; clear hb1)
    | (go_at_call_of 14 (2 : Int); (with_reducible refine (HNum.out _ _).mono ?_); rintro e w2 ⟨rfl, hb2⟩; have HB2 := Lib.hid (HB1.out.trans (hb2.mono HB1.out.size)); clear hb2)
    | (go_at_call_of 14 (3 : Int); (with_reducible refine (HNum.out _ _).mono ?_); rintro e w3 ⟨rfl, hb3⟩; have HB3 := Lib.hid (HB2.out.trans (hb3.mono HB2.out.size)); clear hb3)
    | (go_at_call_of 14 (0 : Int); (with_reducible refine (HNum.out _ _).mono ?_); rintro e w4 ⟨rfl, hb4⟩; have HB4 := Lib.hid (HB3.out.trans (hb4.mono HB3.out.size)); clear hb4))
  have hI := nds_lit (w := w4.alloc (.cells #[.int .i64 1, .int .i64 0, .int .i64 0, .int .i64 1, .string ⟨#[]⟩, .string ⟨#[105]⟩, .int .i64 1, .int .i64 0, .int .i64 0, .int .i64 2, .string ⟨#[]⟩, .string ⟨#[105]⟩, .int .i64 1, .int .i64 0, .int .i64 0, .int .i64 3, .string ⟨#[]⟩, .string ⟨#[105]⟩, .int .i64 1, .int .i64 0, .int .i64 0, .int .i64 0, .string ⟨#[]⟩, .string ⟨#[105]⟩, .int .i64 7, .int .i64 2, .int .i64 0, .int .i64 0, .string ⟨#[47]⟩, .string ⟨#[]⟩, .int .i64 9, .int .i64 3, .int .i64 0, .int .i64 0, .string ⟨#[]⟩, .string ⟨#[]⟩] 43)) (t := exT) (heap_alloc_new _ _) rfl
  have HB5 := Lib.hid (HB4.out.alloc HB4.out.size (.cells #[.int .i64 1, .int .i64 0, .int .i64 0, .int .i64 1, .string ⟨#[]⟩, .string ⟨#[105]⟩, .int .i64 1, .int .i64 0, .int .i64 0, .int .i64 2, .string ⟨#[]⟩, .string ⟨#[105]⟩, .int .i64 1, .int .i64 0, .int .i64 0, .int .i64 3, .string ⟨#[]⟩, .string ⟨#[105]⟩, .int .i64 1, .int .i64 0, .int .i64 0, .int .i64 0, .string ⟨#[]⟩, .string ⟨#[105]⟩, .int .i64 7, .int .i64 2, .int .i64 0, .int .i64 0, .string ⟨#[47]⟩, .string ⟨#[]⟩, .int .i64 9, .int .i64 3, .int .i64 0, .int .i64 0, .string ⟨#[]⟩, .string ⟨#[]⟩] 43))
  have HI := Lib.hid hI
  clear hI
  generalize w4.alloc (.cells #[.int .i64 1, .int .i64 0, .int .i64 0, .int .i64 1, .string ⟨#[]⟩, .string ⟨#[105]⟩, .int .i64 1, .int .i64 0, .int .i64 0, .int .i64 2, .string ⟨#[]⟩, .string ⟨#[105]⟩, .int .i64 1, .int .i64 0, .int .i64 0, .int .i64 3, .string ⟨#[]⟩, .string ⟨#[105]⟩, .int .i64 1, .int .i64 0, .int .i64 0, .int .i64 0, .string ⟨#[]⟩, .string ⟨#[105]⟩, .int .i64 7, .int .i64 2, .int .i64 0, .int .i64 0, .string ⟨#[47]⟩, .string ⟨#[]⟩, .int .i64 9, .int .i64 3, .int .i64 0, .int .i64 0, .string ⟨#[]⟩, .string ⟨#[]⟩] 43) = w5 at *
  have HV := Lib.hid (HEv.out w5 _ (HE.out.below HB5.out) HI.out)
  go_wp2_with (first
    | (go_at_call 13; (with_reducible refine HV.out.mono ?_); rintro e w6 ⟨rfl, hb6⟩; have HB6 := Lib.hid (HB5.out.trans (hb6.mono HB5.out.size)); clear hb6)
    | (go_at_call 9; (with_reducible refine (HCv.out _).mono ?_); rintro e w7 ⟨rfl, hw7⟩; subst w7))
  go_ret
  exact ⟨rfl, HB6.out⟩
end Go.Proofs.YtlcfejgjeljjdaaDoor
