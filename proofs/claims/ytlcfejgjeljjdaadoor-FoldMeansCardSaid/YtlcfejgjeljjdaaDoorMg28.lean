/- What numbers come to, as the package offers it: the program. (Printed by wip/fold/gen-exported.py.) · Constant expressions: the program. · Trees with their constants reckoned: the program. · A tree with its constants reckoned, as the package offers it: the program. · What is folded may be folded again and comes to the same. -/
import Derived.Test.YtlcfejgjeljjdaaDoorMg21
import Derived.Test.YtlcfejgjeljjdaaDoorMg26
import Derived.Test.YtlcfejgjeljjdaaDoorFoldL
namespace Go.Proofs.YtlcfejgjeljjdaaDoor
open Go.RowKit

theorem convert_ok (n : Int) (t : ByteArray) (w : World) : Calls Tryd.prog 9 #[.int .i64 n, .string t] w fun e w' => e = .returned (.tuple #[.int .i64 (convE n t).1, .int .i64 (convE n t).2]) ∧ w' = w := by
  have HI := Lib.hid (isInt_ok t w)
  have HA := Lib.hid (as_ok n t w)
  unfold convE
  rcases hb : isIntS t with _ | _
  · rw [hb] at HI
    rw [if_pos rfl]
    clear hb
    go_enter Tryd.func9, Tryd.ntmps9
    go_wp2_with (go_at_call 7; (with_reducible refine HI.out.mono ?_); rintro e w3 ⟨rfl, rfl⟩)
    go_ret2
    exact ⟨rfl, rfl⟩
  · rw [hb] at HI
    rw [if_neg (by simp)]
    clear hb
    generalize asI n t = r at *
    go_enter Tryd.func9, Tryd.ntmps9
    go_wp2_with (first | (go_at_call 7; (with_reducible refine HI.out.mono ?_); rintro e w3 ⟨rfl, hw3⟩; subst w3) | (go_at_call 17; (with_reducible refine HA.out.mono ?_); rintro e w4 ⟨rfl, hw4⟩; subst w4))
    go_ret2
    exact ⟨rfl, rfl⟩
/-- a number, its type, an error's number -/
def trip (x : Int × ByteArray × Int) : Value := .tuple #[.int .i64 x.1, .string x.2.1, .int .i64 x.2.2]
end Go.Proofs.YtlcfejgjeljjdaaDoor
namespace Go.Proofs.YtlcfejgjeljjdaaDoor
open Go.RowKit

/-- what is wrong with a tree and structs -/
def startN (t : List Nd) (L : List Sr) : Int := if checkN9 t ≠ 0 then checkN9 t else if exprK (kindAt t (t.length - 1)) = false then 5 else (faultN L).2
/-- the tree that a list of nodes is -/
def trOf (t : List Nd) : Tr := trAt t ((beginsN t).getD []) (t.length - 1)
/-- what a constant expression comes to -/
def evalX (t : List Nd) (L : List Sr) : Int × ByteArray × Int := if startN t L ≠ 0 then (0, ⟨#[]⟩, startN t L) else match constT L (trOf t) with
  | none => (0, ⟨#[]⟩, 120)
  | some v => (v.2, v.1, 0)
theorem startN_0 {t : List Nd} {L : List Sr} (h : startN t L = 0) : checkN9 t = 0 ∧ exprK (kindAt t (t.length - 1)) = true ∧ (faultN L).2 = 0 := by
  unfold startN at h
  split at h
  · rename_i h1; exact absurd h h1
  rename_i h1
  split at h
  · cases h
  rename_i h2
  exact ⟨by simpa using h1, by simpa using h2, h⟩
theorem startN_good {t : List Nd} {L : List Sr} {fr : List Nat} (h : startN t L = 0) (hb : beginsN t = some fr) : GoodT (trAt t fr (t.length - 1)) := by
  obtain ⟨h1, h2, _⟩ := startN_0 h
  have := (formed_of hb).pos
  exact good_of h1 hb (by omega) h2
section
variable (a : Option Addr) (cap : Nat) (t : List Nd) (l : Option Addr) (lc : Nat) (L : List Sr) (mv : List Value) (w : World) (hE : TE w) (hI : IsNds w.heap.size w a t) (hOk : ∀ x ∈ t, NdOk x) (hz : t.length * 64 ≤ 140737488351232) (hS : IsSrs w.heap.size w l L mv)
/-- how start ends -/
def StartEnd (e : Ending) (w' : World) : Prop :=
  (if startN t L ≠ 0 then e = .returned (.tuple #[.pointer none, .int .i64 (startN t L)])
   else ∃ (f : Nat) (b : Option Addr) (cb : Nat) (fr : List Nat), e = .returned (.tuple #[.pointer (some ⟨f, 0, none⟩), .int .i64 0]) ∧ FoldAt w'.heap.size w' f a cap t l lc L mv b cb fr ∧ beginsN t = some fr) ∧ Below w.heap.size w w'
theorem startEnd_no {w' : World} {c : Int} (h : startN t L = c) (hc : c ≠ 0) (hb : Below w.heap.size w w') : StartEnd a cap t l lc L mv w (.returned (.tuple #[.pointer none, .int .i64 c])) w' := by
  unfold StartEnd
  rw [if_pos (by rw [h]; exact hc), h]
  exact ⟨rfl, hb⟩
include hE hI hOk hz hS
set_option maxHeartbeats 4000000 in
theorem start_ok : Calls Tryd.prog 18 #[.slice a t.length cap, .slice l L.length lc] w (StartEnd a cap t l lc L mv w) := by
  have hmx : (t.length : Int) ≤ 2199023255488 := by omega
  have HC := Lib.hid (treeCheck_ok a cap t w hE hI hOk hz)
  by_cases hc : checkN9 t = 0
  · rw [hc] at HC
    obtain ⟨fr, hbe, hG⟩ := check_formed hc
    have hle := hG.le
    obtain ⟨k, hk⟩ : ∃ k, t.length = k + 1 := ⟨t.length - 1, by have := hG.formed.pos; omega⟩
    have hk1 : (t.length : Int) - 1 = (k : Int) := by omega
    have hkl : k < t.length := by omega
    have hkd := kindAt_is (List.getElem?_eq_getElem hkl)
    obtain ⟨ba, off, ha, hbl, x0, _⟩ := nds_at hI hkl
    subst ha
    have HI := Lib.hid hI
    have HE := Lib.hid hE
    have HS := Lib.hid hS
    have HCx := Lib.hid (fun w' (h : Below w.heap.size w w') => show w'.cell? ⟨ba, off + k * 6, none⟩ = some (.int .i64 t[k].kind) from by rw [h.cell hbl]; exact x0)
    have HFl := Lib.hid hbe
    have HSN := Lib.hid (show startN t L = if exprK t[k].kind = false then 5 else (faultN L).2 from by unfold startN; rw [if_neg (show ¬ checkN9 t ≠ 0 by simp [hc]), hk, Nat.add_sub_cancel, hkd])
    have HFr := Lib.hid (fun w' (h : Below w.heap.size w w') => fronts_ok (some ⟨ba, off, none⟩) cap t fr w' ((HI.out.below h (Nat.le_refl _)).mono h.size) hle hbe)
    have HSt := Lib.hid (fun w' (h : Below w.heap.size w w') => structs_ok l lc L mv w' (HE.out.below h) ((HS.out.below h).mono h.size))
    unfold StructsEnd at HSt
    clear hE hI hOk hS hc hbe hG x0 hkd hk
    generalize hkk : t[k].kind = kk at *
    go_enter Tryd.func18, Tryd.ntmps18
    go_upto_region 4 with (go_at_call 12; (with_reducible refine HC.out.mono ?_); rintro e w1 ⟨rfl, hb1⟩; have HB1 := Lib.hid hb1; clear hb1)
    have x0 := HCx.out _ HB1.out
    by_cases hlo : kk < 1
    · have t1 : decide (kk < 1) = true := by simpa using hlo
      have HN := Lib.hid (show startN t L = 5 from by rw [HSN.out, if_pos (by unfold exprK; simp; omega)])
      clear hlo
      go_wp2_with fail
      go_ret2
      exact startEnd_no _ _ _ _ _ _ _ _ HN.out (by decide) HB1.out
    have t1 : decide (kk < 1) = false := by simpa using hlo
    by_cases hhi : 17 < kk
    · have t2 : decide (17 < kk) = true := by simpa using hhi
      have HN := Lib.hid (show startN t L = 5 from by rw [HSN.out, if_pos (by unfold exprK; simp; omega)])
      clear hhi hlo
      go_wp2_with fail
      go_ret2
      exact startEnd_no _ _ _ _ _ _ _ _ HN.out (by decide) HB1.out
    have t2 : decide (17 < kk) = false := by simpa using hhi
    have HN := Lib.hid (show startN t L = (faultN L).2 from by rw [HSN.out, if_neg (by unfold exprK; simp; omega)])
    clear hhi hlo
    generalize faultN L = fl at *
    obtain ⟨fi, fc⟩ := fl
    simp only at HSt HN
    have HS1 := Lib.hid (HSt.out _ HB1.out)
    go_upto_region 8 with (go_at_call 33; (with_reducible refine HS1.out.mono ?_); rintro e w2 ⟨rfl, hb2⟩; have HB2 := Lib.hid (HB1.out.trans (hb2.mono HB1.out.size)); clear hb2)
    obtain ⟨⟨q0, q1⟩, _⟩ := two_block (fault_blk w2 (.int .i64 fi) (.int .i64 fc))
    have HB3 := Lib.hid (HB2.out.alloc HB2.out.size (.cells #[.int .i64 fi, .int .i64 fc] 75))
    generalize w2.alloc (.cells #[.int .i64 fi, .int .i64 fc] 75) = w3 at *
    by_cases hf0 : fc = 0
    · subst hf0
      have HFr3 := Lib.hid (HFr.out _ HB3.out)
      go_upto_region 10 with fail
      go_wp2_with (go_at_call 34; (with_reducible refine HFr3.out.mono ?_); rintro e w4 ⟨⟨v, rfl, hrow⟩, hb4⟩; obtain ⟨pa, pc, rfl, hps, _⟩ := hrow.is; have HPs := Lib.hid hps; have HB4 := Lib.hid (HB3.out.trans (hb4.mono HB3.out.size)); clear hrow hps hb4)
      go_ret2
      have hbx : Below w4.heap.size w4 (w4.alloc (.cells #[.slice (some ⟨ba, off, none⟩) t.length cap, .slice l L.length lc, .slice pa fr.length pc] 79)) := ba1 _ _
      have hby := HB4.out.trans (hbx.mono HB4.out.size)
      unfold StartEnd
      rw [if_neg (show ¬ startN t L ≠ 0 by rw [HN.out]; simp)]
      exact ⟨⟨_, pa, pc, fr, rfl, ⟨heap_alloc_new _ _, by simp, (HI.out.below hby (Nat.le_refl _)).mono hby.size, (HPs.out.below hbx (Nat.le_refl _)).mono hbx.size, (HS.out.below hby).mono hby.size, HE.out.below hby, Nat.le_refl _⟩, HFl.out⟩, hby⟩
    · have t3 : (fc != 0) = true := by simpa using hf0
      have HN0 := Lib.hid hf0
      clear hf0
      go_upto_region 9 with fail
      go_quiet (fail)
      go_wp2_with fail
      go_ret2
      exact startEnd_no _ _ _ _ _ _ _ _ HN.out HN0.out (HB3.out.trans ((Below.drewN' _ _).mono HB3.out.size))
  · have HN := Lib.hid (show startN t L = checkN9 t from by unfold startN; rw [if_pos hc])
    have HN0 := Lib.hid hc
    have t1 : (checkN9 t != 0) = true := by simpa using hc
    clear hE hI hOk hS hc
    generalize checkN9 t = c at *
    go_enter Tryd.func18, Tryd.ntmps18
    go_wp2_with (go_at_call 12; (with_reducible refine HC.out.mono ?_); rintro e w1 ⟨rfl, hb1⟩; have HB1 := Lib.hid hb1; clear hb1)
    go_ret2
    exact startEnd_no _ _ _ _ _ _ _ _ HN.out HN0.out HB1.out
theorem start_0 (hc : startN t L = 0) : Calls Tryd.prog 18 #[.slice a t.length cap, .slice l L.length lc] w fun e w' => (∃ (f : Nat) (b : Option Addr) (cb : Nat) (fr : List Nat), e = .returned (.tuple #[.pointer (some ⟨f, 0, none⟩), .int .i64 0]) ∧ FoldAt w'.heap.size w' f a cap t l lc L mv b cb fr ∧ beginsN t = some fr) ∧ Below w.heap.size w w' :=
  (start_ok a cap t l lc L mv w hE hI hOk hz hS).mono fun e w' h => by unfold StartEnd at h; rw [if_neg (show ¬ startN t L ≠ 0 by simp [hc])] at h; exact h
theorem start_n (hc : startN t L ≠ 0) : Calls Tryd.prog 18 #[.slice a t.length cap, .slice l L.length lc] w fun e w' => e = .returned (.tuple #[.pointer none, .int .i64 (startN t L)]) ∧ Below w.heap.size w w' :=
  (start_ok a cap t l lc L mv w hE hI hOk hz hS).mono fun e w' h => by unfold StartEnd at h; rw [if_pos hc] at h; exact h
set_option maxHeartbeats 4000000 in
theorem evalC_ok : Calls Tryd.prog 13 #[.slice a t.length cap, .slice l L.length lc] w fun e w' => e = .returned (trip (evalX t L)) ∧ Below w.heap.size w w' := by
  have hmx : (t.length : Int) ≤ 2199023255488 := by omega
  by_cases hc : startN t L = 0
  · have HSt := Lib.hid (start_0 a cap t l lc L mv w hE hI hOk hz hS hc)
    obtain ⟨h1, _, _⟩ := startN_0 hc
    obtain ⟨fr, hbe, hG⟩ := check_formed h1
    have hpos := hG.formed.pos
    obtain ⟨k, hk⟩ : ∃ k, t.length = k + 1 := ⟨t.length - 1, by omega⟩
    have hk1 : (t.length : Int) - 1 = (k : Int) := by omega
    have HX := Lib.hid (show evalX t L = match constT L (trAt t fr k) with | none => (0, ⟨#[]⟩, 120) | some v => (v.2, v.1, 0) from by
      unfold evalX trOf; rw [if_neg (show ¬ startN t L ≠ 0 by simp [hc]), hbe, hk, Nat.add_sub_cancel]; rfl)
    have HCo := Lib.hid (fun (w' : World) (f : Nat) (b : Option Addr) (cb : Nat) (h : FoldAt w'.heap.size w' f a cap t l lc L mv b cb fr) => constant_ok hG.le hbe k (by omega) (by have := startN_good hc hbe; rw [hk, Nat.add_sub_cancel] at this; exact this) w' h)
    have HBe := Lib.hid hbe
    clear hE hI hOk hS hc hbe hG h1 hk
    generalize constT L (trAt t fr k) = r at *
    go_enter Tryd.func13, Tryd.ntmps13
    go_upto_region 4 with (go_at_call 18; (with_reducible refine HSt.out.mono ?_); rintro e w1 ⟨⟨f, b, cb, fr', rfl, hfo, hbe'⟩, hb1⟩; have HFo := Lib.hid hfo; have HBe' := Lib.hid hbe'; have HB1 := Lib.hid hb1; clear hfo hbe' hb1)
    obtain rfl : fr' = fr := Option.some.inj (HBe'.out.symm.trans HBe.out)
    have HC1 := Lib.hid (HCo.out w1 f b cb HFo.out)
    rcases r with _ | ⟨rt, rn⟩
    · have HC2 := Lib.hid (evalRaw0 HC1.out)
      go_wp2_with (go_at_call 21; (with_reducible refine HC2.out.mono ?_); rintro e w4 ⟨⟨vt, vn, rfl⟩, hb4⟩; have HB4 := Lib.hid (HB1.out.trans (hb4.mono HB1.out.size)); clear hb4)
      go_ret3
      exact ⟨by rw [HX.out]; rfl, HB4.out.alloc HB4.out.size _⟩
    · have HC2 := Lib.hid (evalRaw1 HC1.out)
      go_upto_region 7 with (go_at_call 21; (with_reducible refine HC2.out.mono ?_); rintro e w4 ⟨rfl, hb4⟩; have HB4 := Lib.hid (HB1.out.trans (hb4.mono HB1.out.size)); clear hb4)
      obtain ⟨⟨q0, q1⟩, _⟩ := (numAt_new w4 (rt, rn)).cells
      go_quiet (fail)
      go_wp2_with fail
      go_ret3
      exact ⟨by rw [HX.out]; rfl, (HB4.out.alloc HB4.out.size _).trans ((Below.drewN' _ _).mono (HB4.out.alloc HB4.out.size _).size)⟩
  · have HSt := Lib.hid (start_n a cap t l lc L mv w hE hI hOk hz hS hc)
    have HX := Lib.hid (show evalX t L = (0, ⟨#[]⟩, startN t L) from by unfold evalX; rw [if_pos hc])
    have t1 : (startN t L != 0) = true := by simpa using hc
    clear hE hI hOk hS hc
    generalize startN t L = c at *
    go_enter Tryd.func13, Tryd.ntmps13
    go_wp2_with (go_at_call 18; (with_reducible refine HSt.out.mono ?_); rintro e w1 ⟨rfl, hb1⟩; have HB1 := Lib.hid hb1; clear hb1)
    go_ret3
    exact ⟨by rw [HX.out]; rfl, HB1.out⟩
end
end Go.Proofs.YtlcfejgjeljjdaaDoor
namespace Go.Proofs.YtlcfejgjeljjdaaDoor
open Go.RowKit

theorem flatAll_map (G : Nat → Tr) (P : List Nat) : flatAll (P.map G) = (P.map fun p => (G p).flat).flatten := by
  induction P with
  | nil => rfl
  | cons p r ih => rw [List.map_cons, flatAll, ih, List.map_cons, List.flatten_cons]
theorem flatAll_le {ps : List Tr} {f : Tr → Tr} (h : ∀ T ∈ ps, (f T).flat.length ≤ T.flat.length) : (flatAll (ps.map f)).length ≤ (flatAll ps).length := by
  induction ps with
  | nil => simp [flatAll]
  | cons T r ih =>
    rw [List.map_cons, flatAll, flatAll, List.length_append, List.length_append]
    have h1 := h T List.mem_cons_self
    have h2 := ih fun S hS => h S (List.mem_cons_of_mem _ hS)
    omega
theorem const_range {L : List Sr} {T : Tr} (hg : GoodT T) {v : Num} (h : constT L T = some v) : -4294967296 ≤ v.2 ∧ v.2 ≤ 4294967296 := by
  unfold constT at h
  split at h
  · rename_i hs
    have := ((eval_kind (sizes_ok L) T hg hs).2 v h).2
    unfold Kept at this
    have hr := asI_range v.2 v.1
    omega
  · cases h
section
variable {f : Nat} {a : Option Addr} {cap : Nat} {t : List Nd} {l : Option Addr} {lc : Nat} {L : List Sr} {mv : List Value} {b : Option Addr} {cb : Nat} {fr : List Nat} {B : Nat}
theorem fold_ok (hl : t.length ≤ 4096) (hcap : t.length ≤ cap) (hb : beginsN t = some fr) (k : Nat) : k < t.length → GoodT (trAt t fr k) → ∀ w, FoldAt B w f a cap t l lc L mv b cb fr → Calls Tryd.prog 19 #[.pointer (some ⟨f, 0, none⟩), .int .i64 (k : Int)] w (FoldEnd (foldT L (trAt t fr k)).flat w) := by
  have hf := formed_of hb
  induction k using Nat.strongRecOn with
  | ind k ih =>
    intro hk hg w hFo
    have hx := List.getElem?_eq_getElem hk
    have hgx : t.getD k nd0 = t[k]'hk := by rw [List.getD_eq_getElem?_getD, hx]; rfl
    have e := trAt_eq hf k
    rw [hgx] at e
    obtain ⟨_, _, hsk⟩ := hf.node k _ hx
    have hg' := hg
    rw [e] at hg'
    obtain ⟨hn, hgn, hgs⟩ := good_node.1 hg'
    have hgp : ∀ p ∈ partsAt t fr k, GoodT (trAt t fr p) := fun p hp => hgs _ (List.mem_map.2 ⟨p, hp, rfl⟩)
    have hpl : ∀ p ∈ partsAt t fr k, p < t.length := fun p hp => by have := hf.parts_lt hp; omega
    have hflat := flatT_at hb k hk
    have hlen : (trAt t fr k).flat.length ≤ 4096 := by
      rw [hflat, seg_len (by omega) (by omega)]; omega
    have hsum : ((partsAt t fr k).map fun p => (foldT L (trAt t fr p)).flat).flatten.length < 4096 := by
      have h1 := flatAll_le (ps := (partsAt t fr k).map (trAt t fr)) (f := foldT L) fun T hT => (fold_main (sizes_ok L) T (hgs T hT)).2.2.1
      rw [List.map_map] at h1
      have h2 := flatAll_map (foldT L ∘ trAt t fr) (partsAt t fr k)
      rw [h2] at h1
      have h3 : (trAt t fr k).flat.length = (flatAll ((partsAt t fr k).map (trAt t fr))).length + 1 := by rw [e, Tr.flat, List.length_append]; rfl
      have h4 : ((partsAt t fr k).map fun p => ((foldT L ∘ trAt t fr) p).flat) = ((partsAt t fr k).map fun p => (foldT L (trAt t fr p)).flat) := rfl
      rw [h4] at h1
      omega
    have key := fold_step (F := fun p => (foldT L (trAt t fr p)).flat) (c := constT L (trAt t fr k)) w hFo hl hcap hf hx rfl rfl hsk (fun p _ h => by have := flat_pos (foldT L (trAt t fr p)); rw [h] at this; simp at this) hsum
      (fun h16 => by
        unfold constT
        rw [if_neg]
        rw [e, shapT_node, Bool.and_eq_true]
        rintro ⟨_, h⟩
        have := shN_kinds h
        omega)
      (fun v hv => const_range hg hv)
      (fun w' h' => constant_ok hl hb k hk hg w' h')
      (fun p hp w' h' => ih p (hf.parts_lt hp) (hpl p hp) (hgp p hp) w' h')
    have hR : foldR (wrF (constT L (trAt t fr k)) (t[k]'hk)) (t[k]'hk) (segN t (fr.getD k 0) (k + 1)) ((partsAt t fr k).map fun p => (foldT L (trAt t fr p)).flat) = (foldT L (trAt t fr k)).flat := by
      have hw : wrF (constT L (trAt t fr k)) (t[k]'hk) = wrT L (trAt t fr k) := by
        unfold wrT wrF
        rw [e]
        rfl
      rw [hw]
      unfold foldR
      rcases hwr : wrT L (trAt t fr k) with _ | W
      · simp only
        by_cases h16 : (t[k]'hk).kind = 16
        · rw [if_pos h16, ← hflat]
          rw [e] at hwr ⊢
          rw [foldT_sz hwr h16]
        · rw [if_neg h16]
          rw [e] at hwr ⊢
          rw [foldT_in hwr h16, Tr.flat, List.map_map, flatAll_map]
          rfl
      · simp only
        rw [foldT_wr hwr]
    rw [hR] at key
    exact key
end
end Go.Proofs.YtlcfejgjeljjdaaDoor
namespace Go.Proofs.YtlcfejgjeljjdaaDoor
open Go.RowKit

section
variable (a : Option Addr) (cap : Nat) (t : List Nd) (l : Option Addr) (lc : Nat) (L : List Sr) (mv : List Value) (w : World) (hE : TE w) (hI : IsNds w.heap.size w a t) (hOk : ∀ x ∈ t, NdOk x) (hz : t.length * 64 ≤ 140737488351232) (hS : IsSrs w.heap.size w l L mv)
include hE hI hOk hz hS
set_option maxHeartbeats 4000000 in
theorem foldC_0 (hcap : t.length ≤ cap) (hc : startN t L = 0) : Calls Tryd.prog 10 #[.slice a t.length cap, .slice l L.length lc] w fun e w' => (∃ v, e = .returned (.tuple #[v, .int .i64 0]) ∧ NdRow w' w.heap.size v (foldT L (trOf t)).flat) ∧ Below w.heap.size w w' := by
  have hmx : (t.length : Int) ≤ 2199023255488 := by omega
  have HSt := Lib.hid (start_0 a cap t l lc L mv w hE hI hOk hz hS hc)
  obtain ⟨h1, _, _⟩ := startN_0 hc
  obtain ⟨fr, hbe, hG⟩ := check_formed h1
  have hpos := hG.formed.pos
  obtain ⟨k, hk⟩ : ∃ k, t.length = k + 1 := ⟨t.length - 1, by omega⟩
  have hk1 : (t.length : Int) - 1 = (k : Int) := by omega
  have hTr : trOf t = trAt t fr k := by unfold trOf; rw [hbe, hk, Nat.add_sub_cancel]; rfl
  rw [hTr]
  have HFd := Lib.hid (fun (w' : World) (f : Nat) (b : Option Addr) (cb : Nat) (h : FoldAt w'.heap.size w' f a cap t l lc L mv b cb fr) => fold_ok hG.le hcap hbe k (by omega) (by have := startN_good hc hbe; rw [hk, Nat.add_sub_cancel] at this; exact this) w' h)
  have HBe := Lib.hid hbe
  clear hE hI hOk hS hc hbe hG h1 hk hTr
  generalize (foldT L (trAt t fr k)).flat = R at *
  go_enter Tryd.func10, Tryd.ntmps10
  go_upto_region 4 with (go_at_call 18; (with_reducible refine HSt.out.mono ?_); rintro e w1 ⟨⟨f, b, cb, fr', rfl, hfo, hbe'⟩, hb1⟩; have HFo := Lib.hid hfo; have HBe' := Lib.hid hbe'; have HB1 := Lib.hid hb1; clear hfo hbe' hb1)
  obtain rfl : fr' = fr := Option.some.inj (HBe'.out.symm.trans HBe.out)
  have HC1 := Lib.hid (HFd.out w1 f b cb HFo.out)
  go_wp2_with (go_at_call 19; (with_reducible refine HC1.out.mono ?_); rintro e w4 ⟨⟨v4, rfl, hr4⟩, hb4⟩; have HR4 := Lib.hid hr4; have HB4 := Lib.hid (HB1.out.trans (hb4.mono HB1.out.size)); clear hr4 hb4)
  go_ret2
  exact ⟨⟨_, rfl, ndRow_le HR4.out HB1.out.size⟩, HB4.out⟩
set_option maxHeartbeats 4000000 in
theorem foldC_n (hc : startN t L ≠ 0) : Calls Tryd.prog 10 #[.slice a t.length cap, .slice l L.length lc] w fun e w' => e = .returned (.tuple #[.slice none 0 0, .int .i64 (startN t L)]) ∧ Below w.heap.size w w' := by
  have HSt := Lib.hid (start_n a cap t l lc L mv w hE hI hOk hz hS hc)
  have t1 : (startN t L != 0) = true := by simpa using hc
  clear hE hI hOk hS hc
  generalize startN t L = c at *
  go_enter Tryd.func10, Tryd.ntmps10
  go_wp2_with (go_at_call 18; (with_reducible refine HSt.out.mono ?_); rintro e w1 ⟨rfl, hb1⟩; have HB1 := Lib.hid hb1; clear hb1)
  go_ret2
  exact ⟨rfl, HB1.out⟩
end
theorem tr_of {W : Tr} (h : W.right) : trOf W.flat = W := by
  unfold trOf
  rw [begins_whole h]
  exact tr_back h
/-- what is folded may be folded again: it is right, an expression, of the same size at most -/
theorem folded_start {t : List Nd} {L : List Sr} (hc : startN t L = 0) : startN (foldT L (trOf t)).flat L = 0 ∧ trOf (foldT L (trOf t)).flat = foldT L (trOf t) ∧ GoodT (trOf t) ∧ (foldT L (trOf t)).flat.length ≤ t.length ∧ checkN9 (foldT L (trOf t)).flat = 0 := by
  obtain ⟨h1, h2, h3⟩ := startN_0 hc
  obtain ⟨fr, hbe, hG⟩ := check_formed h1
  have hg : GoodT (trOf t) := by
    have := startN_good hc hbe
    unfold trOf
    rw [hbe]
    exact this
  have hw : (trOf t).flat = t := by
    unfold trOf
    rw [hbe]
    exact flat_whole hbe
  obtain ⟨m1, m2, m3, _, _, _⟩ := fold_main (sizes_ok L) (trOf t) hg
  have hle : (foldT L (trOf t)).flat.length ≤ t.length := by rw [hw] at m3; exact m3
  have hd : deepR (trOf t) ≤ 48 := by
    have h4 := deepN_flat hg.1
    rw [hw] at h4
    rw [← h4]
    unfold checkN9 at h1
    split at h1
    · cases h1
    split at h1
    · cases h1
    rw [hbe] at h1
    simp only at h1
    split at h1
    · cases h1
    split at h1
    · cases h1
    · omega
  have hck := check_good m1 (by have := hG.le; omega) (by omega)
  have htr := tr_of m1.1
  refine ⟨?_, htr, hg, hle, hck⟩
  unfold startN
  rw [if_neg (by rw [hck]; decide), if_neg, h3]
  have hp := flat_pos (foldT L (trOf t))
  have hx := List.getElem?_eq_getElem (show (foldT L (trOf t)).flat.length - 1 < (foldT L (trOf t)).flat.length by omega)
  rw [kindAt_is hx]
  have := (m1.2 _ (List.getElem_mem (show (foldT L (trOf t)).flat.length - 1 < (foldT L (trOf t)).flat.length by omega))).2
  rw [this]
  simp
end Go.Proofs.YtlcfejgjeljjdaaDoor
namespace Go.Proofs.YtlcfejgjeljjdaaDoor
open Go.RowKit

theorem ndOk_good {x : Nd} (h : ndGood x) : NdOk x := by
  obtain ⟨hw, he⟩ := h
  have hk : 1 ≤ x.kind ∧ x.kind ≤ 17 := by unfold exprK at he; simpa using he
  have ha : (arityN x.kind).2 ≤ 4096 := by
    obtain ⟨n, hn, hlt⟩ : ∃ n : Nat, x.kind = (n : Int) ∧ n < 18 := ⟨x.kind.toNat, by omega, by omega⟩
    rw [hn]
    clear hn
    revert n
    decide
  unfold wellN sizeOk at hw
  rw [Bool.and_eq_true] at hw
  obtain ⟨h1, h2⟩ := hw
  simp only [decide_eq_true_eq] at h1
  refine ⟨?_, ?_, ?_, ?_⟩
  · unfold i64In; omega
  · unfold i64In; omega
  · unfold i64In; omega
  · split at h2
    · unfold numberN at h2
      rw [Bool.and_eq_true] at h2
      have h3 := h2.1
      split at h3
      · simp at h3; unfold i64In; omega
      · simp at h3; unfold i64In; omega
    · unfold intOk at h2
      simp at h2; unfold i64In; omega
theorem row_form {w : World} {base : Nat} {v : Value} {R : List Nd} (h : NdRow w base v R) (hne : R ≠ []) : ∃ g cp, v = .slice (some ⟨g, 0, none⟩) R.length cp ∧ R.length ≤ cp ∧ IsNds w.heap.size w (some ⟨g, 0, none⟩) R := by
  rcases own_form h with ⟨_, h0⟩ | ⟨g, cp, rfl⟩
  · exact absurd (List.eq_nil_of_length_eq_zero h0) hne
  · obtain ⟨a, c, e, hI, _⟩ := own_sl nd_len h rfl
    cases e
    exact ⟨g, cp, rfl, (own_at h).1, hI⟩
theorem means_same {t : List Nd} {L : List Sr} (hc : startN t L = 0) : evalX (foldT L (trOf t)).flat L = evalX t L := by
  obtain ⟨h1, h2, h3, _, _⟩ := folded_start hc
  unfold evalX
  rw [if_neg (show ¬ startN (foldT L (trOf t)).flat L ≠ 0 by simp [h1]), if_neg (show ¬ startN t L ≠ 0 by simp [hc]), h2, const_same (sizes_ok L) h3]
theorem means_u {t : List Nd} {L : List Sr} (hc : startN t L = 0) (h0 : (evalX t L).2.2 = 0) (hu : (evalX t L).2.1 = uText12) : (foldT L (trOf t)).flat.length = 1 := by
  obtain ⟨_, _, h3, _, _⟩ := folded_start hc
  unfold evalX at h0 hu
  rw [if_neg (show ¬ startN t L ≠ 0 by simp [hc])] at h0 hu
  rcases hv : constT L (trOf t) with _ | v
  · rw [hv] at h0; cases h0
  · rw [hv] at hu
    exact fold_u (sizes_ok L) h3 hv hu
end Go.Proofs.YtlcfejgjeljjdaaDoor
