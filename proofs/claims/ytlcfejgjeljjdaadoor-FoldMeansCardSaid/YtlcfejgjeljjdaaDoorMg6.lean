/- What becomes of types: the program. · What the rows' lists give: the tables that the program leans on; a world in which they stand so. · A world for the witness: the table of words as it is laid. · Elem, Sign, Decay, Promote, Common: what they tell. · Decay, Promote: the program. · How a type is written: the program, but for functions. · How a type is written: the program: pointers, arrays, words. · How a type is written: the program: functions, all types. -/
import Derived.Test.YtlcfejgjeljjdaaDoorSplit
import Derived.Test.YtlcfejgjeljjdaaDoorMg1
import Derived.Test.YtlcfejgjeljjdaaDoorChecked
import Derived.Test.YtlcfejgjeljjdaaDoorShelf
import Derived.Test.YtlcfejgjeljjdaaDoorRows
import Derived.Lib.LaidTab
import Derived.OpenShut
import Derived.LaidLaws
import Derived.Test.YtlcfejgjeljjdaaDoorMg2
import Derived.IntWalk
import Derived.Deep.DeepCutAuto
import Derived.Laws.AppendOwn
import Derived.Deep.LoopGhost
namespace Go.Proofs.YtlcfejgjeljjdaaDoor
open Go.RowKit

/-- the tables that lie under types -/
structure TE (w : World) : Prop where
  keys : KeysAt w
  maxl : MaxLenAt w
theorem TE.below {w w' : World} (h : TE w) (hb : Below w.heap.size w w') : TE w' := ⟨h.keys.below hb, h.maxl.below hb⟩
theorem TE.drewN {w : World} (h : TE w) (n : Nat) : TE (w.drewN n) := ⟨h.keys.drewN n, h.maxl.drewN n⟩
theorem TE.lt {w : World} (h : TE w) : 0 < w.heap.size := World.block_lt_of_cell? w _ (h.keys 0 (by decide))

theorem tyS_some {s : ByteArray} {t : Ty} : tyS s = some t ↔ s = tyB t ∧ Right t ∧ (code t).length ≤ 65536 := by
  unfold tyS
  have hl : s.data.toList.length = s.size := by rw [Array.length_toList]; rfl
  constructor
  · intro h
    split at h
    · obtain ⟨h1, h2⟩ := tyE_some.1 h
      exact ⟨tyB_eq h1, h2, by rw [← h1, hl]; assumption⟩
    · cases h
  · rintro ⟨rfl, h2, h3⟩
    rw [if_pos (by rw [tyB_size]; exact h3)]
    exact tyE_some.2 ⟨tyB_list t, h2⟩
theorem form_is (r : Bool) (s : ByteArray) (w : World) (hE : TE w) (hr : (tyS s).isSome = r) : Calls Tryd.prog 47 #[.string s] w fun e w' => e = .returned (.bool r) ∧ Below w.heap.size w w' := by
  subst hr; exact form_ok s w hE.keys hE.lt
theorem str_one (s : ByteArray) (c : UInt8) : (s.toList == [c]) = decide (s = ⟨#[c]⟩) := by
  rw [Bool.eq_iff_iff, beq_iff_eq, decide_eq_true_iff, Lib.toList_data]
  exact ⟨fun h => toList_eq (by rw [h]), fun h => by rw [h]⟩
theorem one_base {t : Ty} (h : Right t) (c : UInt8) : (tyB t = ⟨#[c]⟩) ↔ t = .base c := by
  constructor
  · intro e
    have e2 : code t = [c] := by rw [← tyB_list, e]
    cases t with
    | base d => simp [code] at e2; rw [e2]
    | ptr u => rw [code] at e2; have := code_pos (t := u) h; simp at e2; rw [e2.2] at this; simp at this
    | arr n u => rw [code] at e2; simp at e2
    | str s => rw [code] at e2; simp at e2
    | fn ps r => rw [code] at e2; simp at e2
  · rintro rfl; rfl

/-- an integer's type -/
def isIntS (s : ByteArray) : Bool := (tyS s).any isIntT
theorem isIntS_not {s : ByteArray} (h1 : s ≠ ⟨#[99]⟩) (h2 : s ≠ ⟨#[115]⟩) (h3 : s ≠ ⟨#[105]⟩) (h4 : s ≠ ⟨#[117]⟩) : isIntS s = false := by
  unfold isIntS
  rcases h : tyS s with _ | t
  · rfl
  · obtain ⟨rfl, hr, _⟩ := tyS_some.1 h
    cases t with
    | base c =>
      simp only [Option.any_some, isIntT, decide_eq_false_iff_not]
      rintro (rfl | rfl | rfl | rfl)
      · exact h1 rfl
      · exact h2 rfl
      · exact h3 rfl
      · exact h4 rfl
    | _ => rfl
theorem tyS_base {c : UInt8} (h : isBase c = true) : tyS ⟨#[c]⟩ = some (.base c) := tyS_some.2 ⟨rfl, h, by simp [code]⟩
theorem isInt_ok (s : ByteArray) (w : World) : Calls Tryd.prog 7 #[.string s] w fun e w' => e = .returned (.bool (isIntS s)) ∧ w' = w := by
  by_cases h1 : s = ⟨#[99]⟩
  · have hfin := Lib.hid (show isIntS s = true by rw [h1, isIntS, tyS_base (by decide)]; rfl)
    have t1 : (s.toList == [99]) = true := by rw [str_one]; simpa using h1
    clear h1
    go_enter Tryd.func7, Tryd.ntmps7
    go_wp2_with fail
    go_ret
    exact ⟨by rw [hfin.out]; rfl, rfl⟩
  · have t1 : (s.toList == [99]) = false := by rw [str_one]; simpa using h1
    by_cases h2 : s = ⟨#[115]⟩
    · have hfin := Lib.hid (show isIntS s = true by rw [h2, isIntS, tyS_base (by decide)]; rfl)
      have t2 : (s.toList == [115]) = true := by rw [str_one]; simpa using h2
      clear h1 h2
      go_enter Tryd.func7, Tryd.ntmps7
      go_wp2_with fail
      go_ret
      exact ⟨by rw [hfin.out]; rfl, rfl⟩
    · have t2 : (s.toList == [115]) = false := by rw [str_one]; simpa using h2
      by_cases h3 : s = ⟨#[105]⟩
      · have hfin := Lib.hid (show isIntS s = true by rw [h3, isIntS, tyS_base (by decide)]; rfl)
        have t3 : (s.toList == [105]) = true := by rw [str_one]; simpa using h3
        clear h1 h2 h3
        go_enter Tryd.func7, Tryd.ntmps7
        go_wp2_with fail
        go_ret
        exact ⟨by rw [hfin.out]; rfl, rfl⟩
      · have t3 : (s.toList == [105]) = false := by rw [str_one]; simpa using h3
        by_cases h4 : s = ⟨#[117]⟩
        · have hfin := Lib.hid (show isIntS s = true by rw [h4, isIntS, tyS_base (by decide)]; rfl)
          have t4 : (s.toList == [117]) = true := by rw [str_one]; simpa using h4
          clear h1 h2 h3 h4
          go_enter Tryd.func7, Tryd.ntmps7
          go_wp2_with fail
          go_ret
          exact ⟨by rw [hfin.out]; rfl, rfl⟩
        · have t4 : (s.toList == [117]) = false := by rw [str_one]; simpa using h4
          have hfin := Lib.hid (isIntS_not h1 h2 h3 h4)
          clear h1 h2 h3 h4
          go_enter Tryd.func7, Tryd.ntmps7
          go_wp2_with fail
          go_ret
          exact ⟨by rw [hfin.out]; rfl, rfl⟩
theorem isInt_is (r : Bool) (s : ByteArray) (w : World) (hr : isIntS s = r) : Calls Tryd.prog 7 #[.string s] w fun e w' => e = .returned (.bool r) ∧ w' = w := by subst hr; exact isInt_ok s w

/-- a scalar's type -/
def isScalS (s : ByteArray) : Bool := (tyS s).any isScalarT
theorem isScal_int {s : ByteArray} (h : isIntS s = true) : isScalS s = true := by
  unfold isIntS at h; unfold isScalS
  rcases hs : tyS s with _ | t
  · rw [hs] at h; cases h
  · rw [hs] at h; simp only [Option.any_some] at h ⊢; simp [isScalarT, h]
theorem isScal_ptr {s : ByteArray} (hi : isIntS s = false) (hk : 0 < s.size) (hc : s[0] = 112) : isScalS s = (tyS s).isSome := by
  unfold isScalS
  rcases hs : tyS s with _ | t
  · rfl
  · obtain ⟨rfl, hr, _⟩ := tyS_some.1 hs
    cases t with
    | ptr u => rfl
    | base c =>
      obtain ⟨_, h2⟩ := tyB_get (t := .base c) (c := c) (l := []) rfl
      rw [h2] at hc
      rw [hc] at hr
      exact absurd hr (by show ¬ isBase 112 = true; decide)
    | arr n u => obtain ⟨_, h2⟩ := tyB_get (t := .arr n u) rfl; rw [h2] at hc; exact absurd hc (by decide)
    | str n => obtain ⟨_, h2⟩ := tyB_get (t := .str n) rfl; rw [h2] at hc; exact absurd hc (by decide)
    | fn ps r => obtain ⟨_, h2⟩ := tyB_get (t := .fn ps r) rfl; rw [h2] at hc; exact absurd hc (by decide)
theorem isScal_no {s : ByteArray} (hi : isIntS s = false) (hc : ∀ h : 0 < s.size, s[0] ≠ 112) : isScalS s = false := by
  unfold isScalS
  unfold isIntS at hi
  rcases hs : tyS s with _ | t
  · rfl
  · obtain ⟨rfl, hr, _⟩ := tyS_some.1 hs
    rw [hs] at hi
    simp only [Option.any_some] at hi ⊢
    cases t with
    | ptr u => obtain ⟨h1, h2⟩ := tyB_get (t := .ptr u) rfl; exact absurd h2 (hc h1)
    | _ => simp [isScalarT, hi, isPtrT]

set_option maxHeartbeats 1000000 in
theorem isScalar_ok (s : ByteArray) (w : World) (hE : TE w) : Calls Tryd.prog 94 #[.string s] w fun e w' => e = .returned (.bool (isScalS s)) ∧ Below w.heap.size w w' := by
  have HE := Lib.hid hE
  clear hE
  rcases hi : isIntS s with _ | _
  · have HI := Lib.hid hi
    by_cases h0 : 0 < s.size
    · by_cases hc : s[0] = 112
      · have HF := Lib.hid (isScal_ptr hi h0 hc)
        have t0 : decide (0 < s.size) = true := by simpa using h0
        have t1 : ((s[0].toNat : Int) == 112) = true := by rw [hc]; rfl
        rcases hf : (tyS s).isSome with _ | _
        all_goals
          have HFm := Lib.hid (form_is _ s w HE.out hf)
          have hfin := Lib.hid (HF.out.trans hf)
          clear hi hc hf
          go_enter Tryd.func94, Tryd.ntmps94
          go_wp2_with (first | (go_at_call 7; (with_reducible refine (isInt_is _ s _ HI.out).mono ?_); rintro e w1 ⟨rfl, rfl⟩) | (go_at_call 47; (with_reducible refine HFm.out.mono ?_); rintro e w1 ⟨rfl, hb1⟩))
          go_ret
          exact ⟨by rw [hfin.out]; rfl, hb1⟩
      · have hfin := Lib.hid (isScal_no hi (fun _ => hc))
        have t0 : decide (0 < s.size) = true := by simpa using h0
        have t1 : ((s[0].toNat : Int) == 112) = false := by
          rw [beq_eq_false_iff_ne]; intro e
          exact hc (UInt8.toNat_inj.1 (by have : s[0].toNat = 112 := by omega
                                          simpa using this))
        clear hi hc
        go_enter Tryd.func94, Tryd.ntmps94
        go_wp2_with (first | (go_at_call 7; (with_reducible refine (isInt_is _ s _ HI.out).mono ?_); rintro e w1 ⟨rfl, rfl⟩))
        go_ret
        exact ⟨by rw [hfin.out]; rfl, Below.refl _ _⟩
    · have hfin := Lib.hid (isScal_no hi (fun h => absurd h h0))
      have t0 : decide (0 < s.size) = false := by simpa using h0
      clear hi
      go_enter Tryd.func94, Tryd.ntmps94
      go_wp2_with (first | (go_at_call 7; (with_reducible refine (isInt_is _ s _ HI.out).mono ?_); rintro e w1 ⟨rfl, rfl⟩))
      go_ret
      exact ⟨by rw [hfin.out]; rfl, Below.refl _ _⟩
  · have HI := Lib.hid hi
    have hfin := Lib.hid (isScal_int hi)
    clear hi
    go_enter Tryd.func94, Tryd.ntmps94
    go_wp2_with (first | (go_at_call 7; (with_reducible refine (isInt_is _ s _ HI.out).mono ?_); rintro e w1 ⟨rfl, rfl⟩))
    go_ret
    exact ⟨by rw [hfin.out]; rfl, Below.refl _ _⟩

end Go.Proofs.YtlcfejgjeljjdaaDoor
namespace Go.Proofs.YtlcfejgjeljjdaaDoor
open Go.RowKit

theorem laidVars_mem {w : World} : ∀ {l : List (String × DataW Unit)} {ps : List MemPlace}, DataW.LaidVars Tryd.prog w l ps → ∀ (n : String) (d : DataW Unit), (n, d) ∈ l →
    ∃ g t cs fuel p, Tryd.prog.globalNamed n = some g ∧ (Tryd.prog.globals[g]?).map (·.type) = some t ∧ w.var? Tryd.prog n = some cs ∧ DataW.trod (fun _ => ()) Tryd.prog w 0 (fun _ => true) false fuel t cs.toList = some (d, p)
  | [], _, _, _, _, hm => by cases hm
  | (n', d') :: r, ps, h, n, d, hm => by
    obtain ⟨g, t, cs, fuel, p, q, h1, h2, h3, h4, h5, _⟩ := h
    rcases List.mem_cons.1 hm with e | hm'
    · simp only [Prod.mk.injEq] at e
      obtain ⟨rfl, rfl⟩ := e
      exact ⟨g, t, cs, fuel, p, h1, h2, h3, h4⟩
    · exact laidVars_mem h5 n d hm'

theorem strs_of_tab {w : World} {base fuel n : Nat} {sp : Nat → Bool} {held : Bool} {t e : TypeId} {cs : List Value} {zs : List (List UInt8)} {p : List MemPlace}
    (ht : Tryd.prog.underlying t = some (.array n e)) (he : Tryd.prog.underlying e = some .string) (hce : Tryd.prog.cellsOf e = 1) (hct : Tryd.prog.cellsOf t = n)
    (h : DataW.trod (fun _ => ()) Tryd.prog w base sp held fuel t cs = some (.agg (zs.map fun z => .lit (.string z)), p)) : ∀ j, j < zs.length → cs[j]? = some (.string ⟨(zs.getD j []).toArray⟩) := by
  obtain ⟨xs, m, _, hx, hl, hxl, hf⟩ := DataW.trod_array ht h
  simp only [Prod.mk.injEq, DataW.agg.injEq] at hx
  have hlen : zs.length = n := by have := congrArg List.length hx.1; simp at this; omega
  intro j hj
  have hjn : j < n := by omega
  have h1 := hf j hjn
  rw [hce, Nat.mul_one] at h1
  have hjc : j < cs.length := by omega
  rw [List.drop_eq_getElem_cons hjc, List.take_succ_cons, List.take_zero, List.getElem?_eq_getElem (by omega)] at h1
  obtain ⟨s, e1, e2, _⟩ := DataW.trod_string he h1
  simp only [List.cons.injEq, and_true] at e1
  rw [List.getElem?_eq_getElem hjc, e1]
  have h3 : (xs.map (·.1))[j]? = some (.lit (.string s.data.toList)) := by
    rw [List.getElem?_map, List.getElem?_eq_getElem (by omega), e2]; rfl
  rw [← hx.1, List.getElem?_map, List.getElem?_eq_getElem hj] at h3
  simp only [Option.map_some, Option.some.injEq, DataW.lit.injEq, Lit.string.injEq] at h3
  rw [getD_lt _ _ hj, h3]

theorem keysG : Tryd.prog.globalNamed "catapult/lex.keys" = some 0 := by kernel_rfl
theorem keysT : (Tryd.prog.globals[0]?).map (·.type) = some 135 := by kernel_rfl
theorem cells20s : Tryd.prog.cellsOf 135 = 20 := by kernel_rfl
theorem cellsS : Tryd.prog.cellsOf 9 = 1 := by kernel_rfl
theorem keys_laid {w : World} {l : List (String × DataW Unit)} (h : laidMet Tryd.prog l w) (hm : ("catapult/lex.keys", Rows.laid_catapult_lex_keys) ∈ l) : KeysAt w := by
  obtain ⟨ps, hv, _⟩ := h
  obtain ⟨g, t, cs, fuel, p, h1, h2, h3, h4⟩ := laidVars_mem hv _ _ hm
  obtain rfl := Option.some.inj (keysG.symm.trans h1)
  obtain rfl := Option.some.inj (keysT.symm.trans h2)
  have h5 := strs_of_tab (zs := keyT.map (·.data.toList)) Tryd.underlying135 Tryd.underlying9 cellsS cells20s h4
  intro j hj
  rw [Nat.zero_add, World.var?_cell keysG h3 j]
  have h6 := h5 j (by rw [List.length_map]; exact hj)
  rw [getD_lt _ _ (by rw [List.length_map]; exact hj), List.getElem_map] at h6
  rw [getD_lt _ _ hj]
  simpa using h6
/-- the library's own bound holds some number -/
theorem maxl_shaped {w : World} (h : w.ShapedOpen Tryd.prog) : MaxLenAt w := Tryd.laysM219.s1_3 w h
theorem te_laid {w : World} {l : List (String × DataW Unit)} (h : laidMet Tryd.prog l w) (hs : w.ShapedOpen Tryd.prog) (h2 : ("catapult/lex.keys", Rows.laid_catapult_lex_keys) ∈ l) : TE w := ⟨keys_laid h h2, maxl_shaped hs⟩
/-- the cells of a table, off what it reads as -/
def tabCells : DataW Unit → Array Value
  | .agg l => (l.map fun d => match d with
    | .lit (.int k n) => Value.int k n
    | .lit (.string s) => Value.string ⟨s.toArray⟩
    | _ => Value.bool false).toArray
  | _ => #[]

end Go.Proofs.YtlcfejgjeljjdaaDoor
namespace Go.Proofs.YtlcfejgjeljjdaaDoor
open Go.RowKit

/-- a world for the witness: the settled one, the listed variable as it is laid -/
noncomputable def envWorld (os : Os) : World :=
  let w0 := World.holding Tryd.prog os ⟨#[], #[], []⟩
  let put (h : Array Obj) (g : Nat) (cs : Array Value) : Array Obj := h.modify g fun
    | .cells _ t frozen => .cells cs t frozen
    | o => o
  { w0 with heap := put w0.heap 0 (tabCells Rows.laid_catapult_lex_keys) }
end Go.Proofs.YtlcfejgjeljjdaaDoor
namespace Go.Proofs.YtlcfejgjeljjdaaDoor
open Go.RowKit

def isC (c : UInt8) : Ty → Bool
  | .base d => decide (d = c)
  | _ => false
def promoteV (s : ByteArray) : Option Ty → Value
  | none => .tuple #[.string ⟨#[]⟩, .int .i64 2]
  | some t => if (isC 99 t || isC 115 t) = true then .tuple #[.string (tyB (.base 105)), .int .i64 0] else .tuple #[.string s, .int .i64 0]
def commonV : Option Ty → Option Ty → Value
  | some t, some u => if (isIntT t && isIntT u) = true then (if (isC 117 t || isC 117 u) = true then .tuple #[.string (tyB (.base 117)), .int .i64 0] else .tuple #[.string (tyB (.base 105)), .int .i64 0]) else .tuple #[.string ⟨#[]⟩, .int .i64 5]
  | _, _ => .tuple #[.string ⟨#[]⟩, .int .i64 2]

theorem tup_eq {a b : Value} (h : a = b) : Ending.returned a = .returned b := by rw [h]
theorem base_six {c : UInt8} (h : isBase c = true) : c = 118 ∨ c = 99 ∨ c = 115 ∨ c = 105 ∨ c = 117 ∨ c = 106 := by
  unfold isBase at h
  rw [List.contains_iff_mem] at h
  simpa using h
/-- the first letter of a type, as the tests ask -/
def headT : Ty → UInt8
  | .base c => c
  | .ptr _ => 112
  | .arr _ _ => 97
  | .str _ => 83
  | .fn _ _ => 102
theorem tyB_head (t : Ty) : ∃ h : 0 < (tyB t).size, (tyB t)[0] = headT t := by
  cases t with
  | base c => exact tyB_get (t := .base c) rfl
  | ptr u => exact tyB_get (t := .ptr u) rfl
  | arr n u => exact tyB_get (t := .arr n u) rfl
  | str n => exact tyB_get (t := .str n) rfl
  | fn ps r => exact tyB_get (t := .fn ps r) rfl
theorem eq_false' {s : ByteArray} {h : 0 < s.size} {c d : UInt8} (hc : s[0] = c) (hd : c ≠ d) : ((s[0].toNat : Int) == (d.toNat : Int)) = false := by
  rw [hc, beq_eq_false_iff_ne]
  intro e
  exact hd (UInt8.toNat_inj.1 (by omega))
theorem eq_true' {s : ByteArray} {h : 0 < s.size} {c : UInt8} (hc : s[0] = c) : ((s[0].toNat : Int) == (c.toNat : Int)) = true := by rw [hc]; simp

end Go.Proofs.YtlcfejgjeljjdaaDoor
namespace Go.Proofs.YtlcfejgjeljjdaaDoor
open Go.RowKit

theorem one_is {t : Ty} (h : Right t) (c : UInt8) : ((tyB t).toList == [c]) = isC c t := by
  rw [str_one, Bool.eq_iff_iff, decide_eq_true_iff, one_base h]
  cases t <;> simp [isC]
set_option maxHeartbeats 1000000 in
theorem promote_ok (s : ByteArray) (w : World) (hE : TE w) : Calls Tryd.prog 46 #[.string s] w fun e w' => e = .returned (promoteV s (tyS s)) ∧ Below w.heap.size w w' := by
  rcases h : tyS s with _ | t
  · have HF := Lib.hid (form_is false s w hE (by rw [h]; rfl))
    clear h hE
    go_enter Tryd.func46, Tryd.ntmps46
    go_wp2_with (go_at_call 47; (with_reducible refine HF.out.mono ?_); rintro e w1 ⟨rfl, hb1⟩)
    go_ret2
    exact ⟨rfl, hb1⟩
  · obtain ⟨rfl, hr, _⟩ := tyS_some.1 h
    have HF := Lib.hid (form_is true (tyB t) w hE (by rw [h]; rfl))
    have h99 := one_is hr 99
    have h115 := one_is hr 115
    generalize hs : tyB t = s at *
    rcases h1 : isC 99 t with _ | _
    · rcases h2 : isC 115 t with _ | _
      · have hfin := Lib.hid (show promoteV s (some t) = .tuple #[.string s, .int .i64 0] by simp [promoteV, h1, h2])
        rw [h1] at h99; rw [h2] at h115
        clear h hE hr hs h1 h2
        go_enter Tryd.func46, Tryd.ntmps46
        go_wp2_with (go_at_call 47; (with_reducible refine HF.out.mono ?_); rintro e w1 ⟨rfl, hb1⟩)
        go_ret2
        exact ⟨tup_eq hfin.out.symm, hb1⟩
      · have hfin := Lib.hid (show promoteV s (some t) = .tuple #[.string (tyB (.base 105)), .int .i64 0] by simp [promoteV, h1, h2])
        rw [h1] at h99; rw [h2] at h115
        clear h hE hr hs h1 h2
        go_enter Tryd.func46, Tryd.ntmps46
        go_wp2_with (go_at_call 47; (with_reducible refine HF.out.mono ?_); rintro e w1 ⟨rfl, hb1⟩)
        go_ret2
        exact ⟨tup_eq hfin.out.symm, hb1⟩
    · have hfin := Lib.hid (show promoteV s (some t) = .tuple #[.string (tyB (.base 105)), .int .i64 0] by simp [promoteV, h1])
      rw [h1] at h99
      clear h hE hr hs h1 h115
      go_enter Tryd.func46, Tryd.ntmps46
      go_wp2_with (go_at_call 47; (with_reducible refine HF.out.mono ?_); rintro e w1 ⟨rfl, hb1⟩)
      go_ret2
      exact ⟨tup_eq hfin.out.symm, hb1⟩

end Go.Proofs.YtlcfejgjeljjdaaDoor
namespace Go.Proofs.YtlcfejgjeljjdaaDoor
open Go.RowKit

/-- a string by its bytes -/
def strB (l : List UInt8) : ByteArray := ⟨l.toArray⟩
theorem strB_list (l : List UInt8) : (strB l).data.toList = l := by simp [strB]
theorem strB_size (l : List UInt8) : (strB l).size = l.length := by simp [strB, ByteArray.size]
theorem strB_eq {x : ByteArray} {l : List UInt8} (h : x.data.toList = l) : x = strB l := toList_eq (by rw [h, strB_list])

end Go.Proofs.YtlcfejgjeljjdaaDoor
namespace Go.Proofs.YtlcfejgjeljjdaaDoor
open Go.RowKit

theorem head_fn {t : Ty} (h : Right t) : (((headT t).toNat : Int) == 102) = isFnT t := by
  cases t with
  | base c => rcases base_six h with rfl | rfl | rfl | rfl | rfl | rfl <;> rfl
  | _ => rfl
end Go.Proofs.YtlcfejgjeljjdaaDoor
namespace Go.Proofs.YtlcfejgjeljjdaaDoor
open Go.RowKit

theorem own_formT {w : World} {base : Nat} {e : TypeId} {size : Nat} {v : Value} {n : Nat} {xs : List Value} (h : w.ownsRow base e size v n xs) : ∃ a cap, v = .slice a n cap ∧ (0 < n → ∃ g, a = some ⟨g, 0, none⟩ ∧ base ≤ g ∧ g < w.heap.size ∧ ∀ j u, xs[j]? = some u → w.cell? ⟨g, j, none⟩ = some u) := by
  rcases h.2 with ⟨rfl, rfl⟩ | ⟨g, cap, cur, rfl, hb, hg, _⟩
  · exact ⟨_, _, rfl, fun h => by omega⟩
  · refine ⟨_, _, rfl, fun _ => ⟨g, rfl, hb, lt_of_heap hg, fun j u hj => ?_⟩⟩
    have := h.cells (g := g) rfl j u hj
    rwa [addr_add] at this
theorem codes_mem' : ∀ {l : List Ty} {t : Ty}, t ∈ l → (code t).length ≤ (codes l).length
  | [], _, h => by cases h
  | u :: [], t, h => by
    rcases List.mem_cons.1 h with rfl | e
    · rw [codes]; simp
    · cases e
  | u :: v :: l, t, h => by
    rw [codes_cons, codes'_cons]
    rcases List.mem_cons.1 h with rfl | e
    · simp
    · have := codes_mem' e
      simp; omega
end Go.Proofs.YtlcfejgjeljjdaaDoor
