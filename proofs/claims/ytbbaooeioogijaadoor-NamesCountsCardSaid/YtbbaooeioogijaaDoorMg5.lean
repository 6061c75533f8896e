/- What becomes of types: the program. · What the rows' lists give: the tables that the program leans on; a world in which they stand so. · A world for the witness: the table of words as it is laid. · Trees: nodes behind their parts; where a part begins, what its parts are, whether they fit, how deep it is. Plain: nothing of the program. -/
import Derived.Test.YtbbaooeioogijaaDoorMg4
import Derived.Test.YtbbaooeioogijaaDoorMg1
import Derived.Test.YtbbaooeioogijaaDoorChecked
import Derived.Test.YtbbaooeioogijaaDoorShelf
import Derived.Test.YtbbaooeioogijaaDoorRows
import Derived.Lib.LaidTab
import Derived.OpenShut
import Derived.LaidLaws
import Derived.Test.YtbbaooeioogijaaDoorMg2
namespace Go.Proofs.YtbbaooeioogijaaDoor
open Go.RowKit

/-- the tables that lie under types -/
structure TE (w : World) : Prop where
  keys : KeysAt w
  maxl : MaxLenAt w
theorem TE.below {w w' : World} (h : TE w) (hb : Below w.heap.size w w') : TE w' := ⟨h.keys.below hb, h.maxl.below hb⟩
theorem TE.drewN {w : World} (h : TE w) (n : Nat) : TE (w.drewN n) := ⟨h.keys.drewN n, h.maxl.drewN n⟩
theorem TE.lt {w : World} (h : TE w) : 0 < w.heap.size := World.block_lt_of_cell? w _ (h.keys 0 (by decide))

theorem tyS_some {s : ByteArray} {t : Ty} : tyS s = some t ↔ s = tyB t ∧ Right t ∧ (code t).length ≤ 65536 := by
  unfold tyS
  have hl : s.data.toList.length = s.size := by rw [Array.length_toList]; rfl
  constructor
  · intro h
    split at h
    · obtain ⟨h1, h2⟩ := tyE_some.1 h
      exact ⟨tyB_eq h1, h2, by rw [← h1, hl]; assumption⟩
    · cases h
  · rintro ⟨rfl, h2, h3⟩
    rw [if_pos (by rw [tyB_size]; exact h3)]
    exact tyE_some.2 ⟨tyB_list t, h2⟩
theorem form_is (r : Bool) (s : ByteArray) (w : World) (hE : TE w) (hr : (tyS s).isSome = r) : Calls Tryd.prog 71 #[.string s] w fun e w' => e = .returned (.bool r) ∧ Below w.heap.size w w' := by
  subst hr; exact form_ok s w hE.keys hE.lt
theorem str_one (s : ByteArray) (c : UInt8) : (s.toList == [c]) = decide (s = ⟨#[c]⟩) := by
  rw [Bool.eq_iff_iff, beq_iff_eq, decide_eq_true_iff, Lib.toList_data]
  exact ⟨fun h => toList_eq (by rw [h]), fun h => by rw [h]⟩
theorem one_base {t : Ty} (h : Right t) (c : UInt8) : (tyB t = ⟨#[c]⟩) ↔ t = .base c := by
  constructor
  · intro e
    have e2 : code t = [c] := by rw [← tyB_list, e]
    cases t with
    | base d => simp [code] at e2; rw [e2]
    | ptr u => rw [code] at e2; have := code_pos (t := u) h; simp at e2; rw [e2.2] at this; simp at this
    | arr n u => rw [code] at e2; simp at e2
    | str s => rw [code] at e2; simp at e2
    | fn ps r => rw [code] at e2; simp at e2
  · rintro rfl; rfl

/-- an integer's type -/
def isIntS (s : ByteArray) : Bool := (tyS s).any isIntT
theorem isIntS_not {s : ByteArray} (h1 : s ≠ ⟨#[99]⟩) (h2 : s ≠ ⟨#[115]⟩) (h3 : s ≠ ⟨#[105]⟩) (h4 : s ≠ ⟨#[117]⟩) : isIntS s = false := by
  unfold isIntS
  rcases h : tyS s with _ | t
  · rfl
  · obtain ⟨rfl, hr, _⟩ := tyS_some.1 h
    cases t with
    | base c =>
      simp only [Option.any_some, isIntT, decide_eq_false_iff_not]
      rintro (rfl | rfl | rfl | rfl)
      · exact h1 rfl
      · exact h2 rfl
      · exact h3 rfl
      · exact h4 rfl
    | _ => rfl
theorem tyS_base {c : UInt8} (h : isBase c = true) : tyS ⟨#[c]⟩ = some (.base c) := tyS_some.2 ⟨rfl, h, by simp [code]⟩
theorem isInt_ok (s : ByteArray) (w : World) : Calls Tryd.prog 97 #[.string s] w fun e w' => e = .returned (.bool (isIntS s)) ∧ w' = w := by
  by_cases h1 : s = ⟨#[99]⟩
  · have hfin := Lib.hid (show isIntS s = true by rw [h1, isIntS, tyS_base (by decide)]; rfl)
    have t1 : (s.toList == [99]) = true := by rw [str_one]; simpa using h1
    clear h1
    go_enter Tryd.func97, Tryd.ntmps97
    go_wp2_with fail
    go_ret
    exact ⟨by rw [hfin.out]; rfl, rfl⟩
  · have t1 : (s.toList == [99]) = false := by rw [str_one]; simpa using h1
    by_cases h2 : s = ⟨#[115]⟩
    · have hfin := Lib.hid (show isIntS s = true by rw [h2, isIntS, tyS_base (by decide)]; rfl)
      have t2 : (s.toList == [115]) = true := by rw [str_one]; simpa using h2
      clear h1 h2
      go_enter Tryd.func97, Tryd.ntmps97
      go_wp2_with fail
      go_ret
      exact ⟨by rw [hfin.out]; rfl, rfl⟩
    · have t2 : (s.toList == [115]) = false := by rw [str_one]; simpa using h2
      by_cases h3 : s = ⟨#[105]⟩
      · have hfin := Lib.hid (show isIntS s = true by rw [h3, isIntS, tyS_base (by decide)]; rfl)
        have t3 : (s.toList == [105]) = true := by rw [str_one]; simpa using h3
        clear h1 h2 h3
        go_enter Tryd.func97, Tryd.ntmps97
        go_wp2_with fail
        go_ret
        exact ⟨by rw [hfin.out]; rfl, rfl⟩
      · have t3 : (s.toList == [105]) = false := by rw [str_one]; simpa using h3
        by_cases h4 : s = ⟨#[117]⟩
        · have hfin := Lib.hid (show isIntS s = true by rw [h4, isIntS, tyS_base (by decide)]; rfl)
          have t4 : (s.toList == [117]) = true := by rw [str_one]; simpa using h4
          clear h1 h2 h3 h4
          go_enter Tryd.func97, Tryd.ntmps97
          go_wp2_with fail
          go_ret
          exact ⟨by rw [hfin.out]; rfl, rfl⟩
        · have t4 : (s.toList == [117]) = false := by rw [str_one]; simpa using h4
          have hfin := Lib.hid (isIntS_not h1 h2 h3 h4)
          clear h1 h2 h3 h4
          go_enter Tryd.func97, Tryd.ntmps97
          go_wp2_with fail
          go_ret
          exact ⟨by rw [hfin.out]; rfl, rfl⟩
theorem isInt_is (r : Bool) (s : ByteArray) (w : World) (hr : isIntS s = r) : Calls Tryd.prog 97 #[.string s] w fun e w' => e = .returned (.bool r) ∧ w' = w := by subst hr; exact isInt_ok s w

/-- a scalar's type -/
def isScalS (s : ByteArray) : Bool := (tyS s).any isScalarT
theorem isScal_int {s : ByteArray} (h : isIntS s = true) : isScalS s = true := by
  unfold isIntS at h; unfold isScalS
  rcases hs : tyS s with _ | t
  · rw [hs] at h; cases h
  · rw [hs] at h; simp only [Option.any_some] at h ⊢; simp [isScalarT, h]
theorem isScal_ptr {s : ByteArray} (hi : isIntS s = false) (hk : 0 < s.size) (hc : s[0] = 112) : isScalS s = (tyS s).isSome := by
  unfold isScalS
  rcases hs : tyS s with _ | t
  · rfl
  · obtain ⟨rfl, hr, _⟩ := tyS_some.1 hs
    cases t with
    | ptr u => rfl
    | base c =>
      obtain ⟨_, h2⟩ := tyB_get (t := .base c) (c := c) (l := []) rfl
      rw [h2] at hc
      rw [hc] at hr
      exact absurd hr (by show ¬ isBase 112 = true; decide)
    | arr n u => obtain ⟨_, h2⟩ := tyB_get (t := .arr n u) rfl; rw [h2] at hc; exact absurd hc (by decide)
    | str n => obtain ⟨_, h2⟩ := tyB_get (t := .str n) rfl; rw [h2] at hc; exact absurd hc (by decide)
    | fn ps r => obtain ⟨_, h2⟩ := tyB_get (t := .fn ps r) rfl; rw [h2] at hc; exact absurd hc (by decide)
theorem isScal_no {s : ByteArray} (hi : isIntS s = false) (hc : ∀ h : 0 < s.size, s[0] ≠ 112) : isScalS s = false := by
  unfold isScalS
  unfold isIntS at hi
  rcases hs : tyS s with _ | t
  · rfl
  · obtain ⟨rfl, hr, _⟩ := tyS_some.1 hs
    rw [hs] at hi
    simp only [Option.any_some] at hi ⊢
    cases t with
    | ptr u => obtain ⟨h1, h2⟩ := tyB_get (t := .ptr u) rfl; exact absurd h2 (hc h1)
    | _ => simp [isScalarT, hi, isPtrT]

set_option maxHeartbeats 1000000 in
theorem isScalar_ok (s : ByteArray) (w : World) (hE : TE w) : Calls Tryd.prog 89 #[.string s] w fun e w' => e = .returned (.bool (isScalS s)) ∧ Below w.heap.size w w' := by
  have HE := Lib.hid hE
  clear hE
  rcases hi : isIntS s with _ | _
  · have HI := Lib.hid hi
    by_cases h0 : 0 < s.size
    · by_cases hc : s[0] = 112
      · have HF := Lib.hid (isScal_ptr hi h0 hc)
        have t0 : decide (0 < s.size) = true := by simpa using h0
        have t1 : ((s[0].toNat : Int) == 112) = true := by rw [hc]; rfl
        rcases hf : (tyS s).isSome with _ | _
        all_goals
          have HFm := Lib.hid (form_is _ s w HE.out hf)
          have hfin := Lib.hid (HF.out.trans hf)
          clear hi hc hf
          go_enter Tryd.func89, Tryd.ntmps89
          go_wp2_with (first | (go_at_call 97; (with_reducible refine (isInt_is _ s _ HI.out).mono ?_); rintro e w1 ⟨rfl, rfl⟩) | (go_at_call 71; (with_reducible refine HFm.out.mono ?_); rintro e w1 ⟨rfl, hb1⟩))
          go_ret
          exact ⟨by rw [hfin.out]; rfl, hb1⟩
      · have hfin := Lib.hid (isScal_no hi (fun _ => hc))
        have t0 : decide (0 < s.size) = true := by simpa using h0
        have t1 : ((s[0].toNat : Int) == 112) = false := by
          rw [beq_eq_false_iff_ne]; intro e
          exact hc (UInt8.toNat_inj.1 (by have : s[0].toNat = 112 := by omega
                                          simpa using this))
        clear hi hc
        go_enter Tryd.func89, Tryd.ntmps89
        go_wp2_with (first | (go_at_call 97; (with_reducible refine (isInt_is _ s _ HI.out).mono ?_); rintro e w1 ⟨rfl, rfl⟩))
        go_ret
        exact ⟨by rw [hfin.out]; rfl, Below.refl _ _⟩
    · have hfin := Lib.hid (isScal_no hi (fun h => absurd h h0))
      have t0 : decide (0 < s.size) = false := by simpa using h0
      clear hi
      go_enter Tryd.func89, Tryd.ntmps89
      go_wp2_with (first | (go_at_call 97; (with_reducible refine (isInt_is _ s _ HI.out).mono ?_); rintro e w1 ⟨rfl, rfl⟩))
      go_ret
      exact ⟨by rw [hfin.out]; rfl, Below.refl _ _⟩
  · have HI := Lib.hid hi
    have hfin := Lib.hid (isScal_int hi)
    clear hi
    go_enter Tryd.func89, Tryd.ntmps89
    go_wp2_with (first | (go_at_call 97; (with_reducible refine (isInt_is _ s _ HI.out).mono ?_); rintro e w1 ⟨rfl, rfl⟩))
    go_ret
    exact ⟨by rw [hfin.out]; rfl, Below.refl _ _⟩

end Go.Proofs.YtbbaooeioogijaaDoor
namespace Go.Proofs.YtbbaooeioogijaaDoor
open Go.RowKit

theorem laidVars_mem {w : World} : ∀ {l : List (String × DataW Unit)} {ps : List MemPlace}, DataW.LaidVars Tryd.prog w l ps → ∀ (n : String) (d : DataW Unit), (n, d) ∈ l →
    ∃ g t cs fuel p, Tryd.prog.globalNamed n = some g ∧ (Tryd.prog.globals[g]?).map (·.type) = some t ∧ w.var? Tryd.prog n = some cs ∧ DataW.trod (fun _ => ()) Tryd.prog w 0 (fun _ => true) false fuel t cs.toList = some (d, p)
  | [], _, _, _, _, hm => by cases hm
  | (n', d') :: r, ps, h, n, d, hm => by
    obtain ⟨g, t, cs, fuel, p, q, h1, h2, h3, h4, h5, _⟩ := h
    rcases List.mem_cons.1 hm with e | hm'
    · simp only [Prod.mk.injEq] at e
      obtain ⟨rfl, rfl⟩ := e
      exact ⟨g, t, cs, fuel, p, h1, h2, h3, h4⟩
    · exact laidVars_mem h5 n d hm'

theorem strs_of_tab {w : World} {base fuel n : Nat} {sp : Nat → Bool} {held : Bool} {t e : TypeId} {cs : List Value} {zs : List (List UInt8)} {p : List MemPlace}
    (ht : Tryd.prog.underlying t = some (.array n e)) (he : Tryd.prog.underlying e = some .string) (hce : Tryd.prog.cellsOf e = 1) (hct : Tryd.prog.cellsOf t = n)
    (h : DataW.trod (fun _ => ()) Tryd.prog w base sp held fuel t cs = some (.agg (zs.map fun z => .lit (.string z)), p)) : ∀ j, j < zs.length → cs[j]? = some (.string ⟨(zs.getD j []).toArray⟩) := by
  obtain ⟨xs, m, _, hx, hl, hxl, hf⟩ := DataW.trod_array ht h
  simp only [Prod.mk.injEq, DataW.agg.injEq] at hx
  have hlen : zs.length = n := by have := congrArg List.length hx.1; simp at this; omega
  intro j hj
  have hjn : j < n := by omega
  have h1 := hf j hjn
  rw [hce, Nat.mul_one] at h1
  have hjc : j < cs.length := by omega
  rw [List.drop_eq_getElem_cons hjc, List.take_succ_cons, List.take_zero, List.getElem?_eq_getElem (by omega)] at h1
  obtain ⟨s, e1, e2, _⟩ := DataW.trod_string he h1
  simp only [List.cons.injEq, and_true] at e1
  rw [List.getElem?_eq_getElem hjc, e1]
  have h3 : (xs.map (·.1))[j]? = some (.lit (.string s.data.toList)) := by
    rw [List.getElem?_map, List.getElem?_eq_getElem (by omega), e2]; rfl
  rw [← hx.1, List.getElem?_map, List.getElem?_eq_getElem hj] at h3
  simp only [Option.map_some, Option.some.injEq, DataW.lit.injEq, Lit.string.injEq] at h3
  rw [getD_lt _ _ hj, h3]

theorem keysG : Tryd.prog.globalNamed "catapult/lex.keys" = some 0 := by kernel_rfl
theorem keysT : (Tryd.prog.globals[0]?).map (·.type) = some 154 := by kernel_rfl
theorem cells20s : Tryd.prog.cellsOf 154 = 20 := by kernel_rfl
theorem cellsS : Tryd.prog.cellsOf 9 = 1 := by kernel_rfl
theorem keys_laid {w : World} {l : List (String × DataW Unit)} (h : laidMet Tryd.prog l w) (hm : ("catapult/lex.keys", Rows.laid_catapult_lex_keys) ∈ l) : KeysAt w := by
  obtain ⟨ps, hv, _⟩ := h
  obtain ⟨g, t, cs, fuel, p, h1, h2, h3, h4⟩ := laidVars_mem hv _ _ hm
  obtain rfl := Option.some.inj (keysG.symm.trans h1)
  obtain rfl := Option.some.inj (keysT.symm.trans h2)
  have h5 := strs_of_tab (zs := keyT.map (·.data.toList)) Tryd.underlying154 Tryd.underlying9 cellsS cells20s h4
  intro j hj
  rw [Nat.zero_add, World.var?_cell keysG h3 j]
  have h6 := h5 j (by rw [List.length_map]; exact hj)
  rw [getD_lt _ _ (by rw [List.length_map]; exact hj), List.getElem_map] at h6
  rw [getD_lt _ _ hj]
  simpa using h6
/-- the library's own bound holds some number -/
theorem maxl_shaped {w : World} (h : w.ShapedOpen Tryd.prog) : MaxLenAt w := Tryd.laysM219.s1_3 w h
theorem te_laid {w : World} {l : List (String × DataW Unit)} (h : laidMet Tryd.prog l w) (hs : w.ShapedOpen Tryd.prog) (h2 : ("catapult/lex.keys", Rows.laid_catapult_lex_keys) ∈ l) : TE w := ⟨keys_laid h h2, maxl_shaped hs⟩
/-- the cells of a table, off what it reads as -/
def tabCells : DataW Unit → Array Value
  | .agg l => (l.map fun d => match d with
    | .lit (.int k n) => Value.int k n
    | .lit (.string s) => Value.string ⟨s.toArray⟩
    | _ => Value.bool false).toArray
  | _ => #[]

end Go.Proofs.YtbbaooeioogijaaDoor
namespace Go.Proofs.YtbbaooeioogijaaDoor
open Go.RowKit

/-- a world for the witness: the settled one, the listed variable as it is laid -/
noncomputable def envWorld (os : Os) : World :=
  let w0 := World.holding Tryd.prog os ⟨#[], #[], []⟩
  let put (h : Array Obj) (g : Nat) (cs : Array Value) : Array Obj := h.modify g fun
    | .cells _ t frozen => .cells cs t frozen
    | o => o
  { w0 with heap := put w0.heap 0 (tabCells Rows.laid_catapult_lex_keys) }
end Go.Proofs.YtbbaooeioogijaaDoor
namespace Go.Proofs.YtbbaooeioogijaaDoor

structure Nd where
  kind : Int
  n : Int
  at_ : Int
  int : Int
  text : ByteArray
  type : ByteArray
/-- least and most parts -/
def arityN (k : Int) : Int × Int :=
  if k = 1 ∨ k = 2 ∨ k = 3 ∨ k = 17 ∨ k = 30 ∨ k = 31 ∨ k = 33 then (0, 0)
  else if k = 4 ∨ k = 5 ∨ k = 6 ∨ k = 13 ∨ k = 14 ∨ k = 15 ∨ k = 16 ∨ k = 20 ∨ k = 29 then (1, 1)
  else if k = 7 ∨ k = 8 ∨ k = 10 ∨ k = 12 ∨ k = 24 ∨ k = 25 ∨ k = 27 ∨ k = 28 then (2, 2)
  else if k = 9 then (3, 3)
  else if k = 26 then (4, 4)
  else if k = 11 then (1, 9)
  else if k = 21 then (0, 4096)
  else if k = 22 ∨ k = 32 then (0, 1)
  else if k = 23 then (2, 3)
  else (-1, -1)
/-- a type that may stand in a tree -/
def typedS (s : ByteArray) : Bool := decide (checkS [] s = 0 ∨ checkS [] s = 4)
def objectS (s : ByteArray) : Bool := (tyS s).any objectT
def marksB : List ByteArray := [⟨#[42]⟩, ⟨#[47]⟩, ⟨#[37]⟩, ⟨#[43]⟩, ⟨#[45]⟩, ⟨#[60, 60]⟩, ⟨#[62, 62]⟩, ⟨#[60]⟩, ⟨#[62]⟩, ⟨#[60, 61]⟩, ⟨#[62, 61]⟩, ⟨#[61, 61]⟩, ⟨#[33, 61]⟩, ⟨#[38]⟩, ⟨#[94]⟩, ⟨#[124]⟩, ⟨#[38, 38]⟩, ⟨#[124, 124]⟩]
def marksN (k : Int) : List ByteArray :=
  if k = 4 then [⟨#[45]⟩, ⟨#[126]⟩, ⟨#[33]⟩, ⟨#[38]⟩, ⟨#[42]⟩]
  else if k = 5 ∨ k = 6 then [⟨#[43, 43]⟩, ⟨#[45, 45]⟩]
  else if k = 7 then marksB
  else if k = 8 then [⟨#[61]⟩, ⟨#[42, 61]⟩, ⟨#[47, 61]⟩, ⟨#[37, 61]⟩, ⟨#[43, 61]⟩, ⟨#[45, 61]⟩, ⟨#[60, 60, 61]⟩, ⟨#[62, 62, 61]⟩, ⟨#[38, 61]⟩, ⟨#[94, 61]⟩, ⟨#[124, 61]⟩]
  else []
def noText (s : ByteArray) : Bool := decide (s.size = 0)
def numberN (x : Nd) : Bool := if x.type = ⟨#[117]⟩ then decide (0 ≤ x.int ∧ x.int < 4294967296) else decide (x.type = ⟨#[105]⟩) && decide (-128 ≤ x.int ∧ x.int < 2147483648)
/-- parts and place -/
def sizeOk (x : Nd) : Bool := decide (0 ≤ (arityN x.kind).1 ∧ (arityN x.kind).1 ≤ x.n ∧ x.n ≤ (arityN x.kind).2 ∧ 0 ≤ x.at_ ∧ x.at_ ≤ 65536)
def intOk (x : Nd) : Bool := decide (x.int = 0 ∨ (x.kind = 22 ∧ x.int = 1))
/-- text and type, by kind -/
def bodyOk (x : Nd) : Bool :=
  if x.kind = 2 then decide (x.text.size ≤ 4096) && noText x.type
  else if x.kind = 3 ∨ x.kind = 13 ∨ x.kind = 14 then isNameB x.text && noText x.type
  else if x.kind = 22 then isNameB x.text && (typedS x.type && objectS x.type)
  else if x.kind = 4 ∨ x.kind = 5 ∨ x.kind = 6 ∨ x.kind = 7 ∨ x.kind = 8 then Lib.containsS (marksN x.kind) x.text && noText x.type
  else if x.kind = 15 ∨ x.kind = 17 then noText x.text && typedS x.type
  else noText x.text && noText x.type
/-- a node that is right by itself -/
def wellN (x : Nd) : Bool := sizeOk x && (if x.kind = 1 then numberN x && noText x.text else intOk x && bodyOk x)

/-- of each node where its part begins; st: where the parts begin that wait, the last one first -/
def beginsF : List Nd → Nat → List Nat → Option (List Nat × List Nat)
  | [], _, st => some ([], st)
  | x :: l, i, st =>
    if x.n < 0 ∨ (st.length : Int) < x.n then none
    else
      let a := if 0 < x.n then st.getD (x.n.toNat - 1) 0 else i
      (beginsF l (i + 1) (a :: st.drop x.n.toNat)).map fun r => (a :: r.1, r.2)
def beginsN (t : List Nd) : Option (List Nat) := match beginsF t 0 [] with
  | some (f, [_]) => some f
  | _ => none
/-- the places of n parts, the last of which ends ahead of e -/
def partsE (fr : List Nat) : Nat → Nat → List Nat
  | 0, _ => []
  | n + 1, e => partsE fr n (fr.getD (e - 1) 0) ++ [e - 1]
/-- there are so many parts ahead of e -/
def Back (fr : List Nat) : Nat → Nat → Prop
  | 0, _ => True
  | n + 1, e => 0 < e ∧ fr.getD (e - 1) 0 < e ∧ Back fr n (fr.getD (e - 1) 0)
/-- the parts that wait end ahead of e -/
def Ends (fr : List Nat) : List Nat → Nat → Prop
  | [], _ => True
  | s :: st, e => s < e ∧ fr.getD (e - 1) 0 = s ∧ Ends fr st s
theorem Ends.back {fr : List Nat} : ∀ {st : List Nat} {e n : Nat}, Ends fr st e → n ≤ st.length → Back fr n e
  | _, _, 0, _, _ => trivial
  | [], _, n + 1, _, h => by simp at h
  | s :: st, e, n + 1, ⟨h1, h2, h3⟩, h => ⟨by omega, by omega, by rw [h2]; exact Ends.back h3 (by simpa using h)⟩
theorem getD_app {fr g : List Nat} {k : Nat} (h : k < fr.length) : (fr ++ g).getD k 0 = fr.getD k 0 := by
  rw [List.getD_eq_getElem?_getD, List.getD_eq_getElem?_getD, List.getElem?_append_left h]
theorem Ends.app {fr g : List Nat} : ∀ {st : List Nat} {e : Nat}, e ≤ fr.length → Ends fr st e → Ends (fr ++ g) st e
  | [], _, _, _ => trivial
  | s :: st, e, he, ⟨h1, h2, h3⟩ => ⟨h1, by rw [getD_app (by omega)]; exact h2, Ends.app (by omega) h3⟩
theorem Ends.drop {fr : List Nat} : ∀ {st : List Nat} {e : Nat} (n : Nat), Ends fr st e → 0 < n → n ≤ st.length → Ends fr (st.drop n) (st.getD (n - 1) 0)
  | [], _, n, _, h0, h => by simp at h; omega
  | s :: st, e, n + 1, ⟨h1, h2, h3⟩, _, h => by
    cases n with
    | zero => simpa using h3
    | succ n =>
      have := Ends.drop (n + 1) h3 (by omega) (by simpa using h)
      simpa using this
theorem Ends.lt {fr : List Nat} : ∀ {st : List Nat} {e : Nat} (n : Nat), Ends fr st e → n < st.length → st.getD n 0 < e
  | [], _, n, _, h => by simp at h
  | s :: st, e, 0, ⟨h1, _, _⟩, _ => by simpa using h1
  | s :: st, e, n + 1, ⟨h1, _, h3⟩, h => by
    have := Ends.lt n h3 (by simpa using h)
    simp only [List.getD_cons_succ]
    omega
/-- what is so of each node: its parts are there -/
theorem begins_back : ∀ (l : List Nd) (pre : List Nat) (st : List Nat) {f st' : List Nat}, beginsF l pre.length st = some (f, st') → Ends pre st pre.length →
    f.length = l.length ∧ Ends (pre ++ f) st' (pre.length + l.length) ∧ ∀ (j : Nat) x, l[j]? = some x → 0 ≤ x.n ∧ Back (pre ++ f) x.n.toNat (pre.length + j) ∧ (pre ++ f).getD (pre.length + j) 0 ≤ pre.length + j
  | [], pre, st, f, st', h, he => by
    rw [beginsF] at h
    obtain ⟨rfl, rfl⟩ := Prod.mk.inj (Option.some.inj h)
    exact ⟨rfl, by simpa using he, fun j x hx => by simp at hx⟩
  | x :: l, pre, st, f, st', h, he => by
    rw [beginsF] at h
    split at h
    · cases h
    · rename_i hn
      simp only [Option.map_eq_some_iff] at h
      obtain ⟨⟨g, st2⟩, hg, e⟩ := h
      obtain ⟨rfl, rfl⟩ := Prod.mk.inj e
      simp only at hg ⊢
      generalize ha : (if 0 < x.n then st.getD (x.n.toNat - 1) 0 else pre.length) = a at *
      have hle : x.n.toNat ≤ st.length := by omega
      have ha1 : a ≤ pre.length := by
        rw [← ha]
        split
        · exact Nat.le_of_lt (he.lt _ (by omega))
        · exact Nat.le_refl _
      have he2 : Ends (pre ++ [a]) (a :: st.drop x.n.toNat) (pre ++ [a]).length := by
        refine ⟨by simp; omega, by simp, ?_⟩
        by_cases h0 : 0 < x.n
        · rw [if_pos h0] at ha
          rw [← ha]
          exact (he.drop x.n.toNat (by omega) hle).app (by rw [ha]; exact ha1)
        · rw [if_neg h0] at ha
          have : x.n.toNat = 0 := by omega
          rw [this, ← ha]
          simpa using he.app (Nat.le_refl _)
      have hl1 : (pre ++ [a]).length = pre.length + 1 := by simp
      obtain ⟨h1, h2, h3⟩ := begins_back l (pre ++ [a]) _ (by rw [hl1]; exact hg) he2
      have hap : pre ++ [a] ++ g = pre ++ a :: g := by simp
      rw [hap, hl1] at h2 h3
      refine ⟨by simp [h1], by rw [show pre.length + (x :: l).length = pre.length + 1 + l.length by simp; omega]; exact h2, fun j y hy => ?_⟩
      cases j with
      | zero =>
        obtain rfl := Option.some.inj hy
        refine ⟨by omega, ?_, ?_⟩
        · have := (he.app (g := a :: g) (Nat.le_refl _)).back (n := x.n.toNat) hle
          simpa using this
        · rw [List.getD_eq_getElem?_getD, Nat.add_zero, List.getElem?_append_right (Nat.le_refl _), Nat.sub_self]
          exact ha1
      | succ j =>
        have := h3 j y (by simpa using hy)
        rw [show pre.length + (j + 1) = pre.length + 1 + j by omega]
        exact this
/-- a list of nodes that is well formed, and where its parts begin -/
structure Formed (t : List Nd) (fr : List Nat) : Prop where
  len : fr.length = t.length
  pos : 0 < t.length
  node : ∀ (j : Nat) x, t[j]? = some x → 0 ≤ x.n ∧ Back fr x.n.toNat j ∧ fr.getD j 0 ≤ j
theorem formed_of {t : List Nd} {fr : List Nat} (h : beginsN t = some fr) : Formed t fr := by
  unfold beginsN at h
  split at h
  · rename_i f s hb
    obtain rfl := Option.some.inj h
    obtain ⟨h1, h2, h3⟩ := begins_back t [] [] hb trivial
    refine ⟨h1, ?_, fun j x hx => by simpa using h3 j x hx⟩
    have := h2.1
    simp at this; omega
  · cases h

/-- may a kind be the i-th part of another one? -/
def exprK (k : Int) : Bool := decide (1 ≤ k ∧ k ≤ 17)
def stmtK (k : Int) : Bool := decide (20 ≤ k ∧ k ≤ 32 ∧ k ≠ 22)
def mayN (k : Int) (i : Nat) (q : Int) : Bool :=
  if exprK k = true ∨ k = 20 ∨ k = 32 ∨ k = 22 then exprK q
  else if k = 26 then (if i = 0 then decide (q = 20 ∨ q = 22 ∨ q = 33) else if i = 3 then stmtK q else exprK q || decide (q = 33))
  else if k = 21 then stmtK q || decide (q = 22)
  else if k = 25 then (if i = 0 then stmtK q else exprK q)
  else if k = 23 ∨ k = 24 ∨ k = 27 ∨ k = 28 then (if i = 0 then exprK q else stmtK q)
  else stmtK q
def kindAt (t : List Nd) (k : Nat) : Int := (t[k]?.map Nd.kind).getD 0
def partsAt (t : List Nd) (fr : List Nat) (k : Nat) : List Nat := partsE fr ((t[k]?.map fun x => x.n.toNat).getD 0) k
/-- an open if -/
def openF (t : List Nd) (fr : List Nat) : Nat → Nat → Bool
  | 0, _ => false
  | m + 1, k =>
    let p := partsAt t fr k
    if kindAt t k = 23 then decide (p.length = 2) || openF t fr m (p.getD 2 0)
    else if kindAt t k = 24 ∨ kindAt t k = 26 ∨ kindAt t k = 27 ∨ kindAt t k = 28 ∨ kindAt t k = 29 then openF t fr m (p.getD (p.length - 1) 0)
    else false
def openN (t : List Nd) (fr : List Nat) (k : Nat) : Bool := openF t fr (k + 1) k
def mayAll (t : List Nd) (k : Int) : Nat → List Nat → Bool
  | _, [] => true
  | i, p :: l => mayN k i (kindAt t p) && mayAll t k (i + 1) l
def fitsN (t : List Nd) (fr : List Nat) (k : Nat) : Bool :=
  mayAll t (kindAt t k) 0 (partsAt t fr k) && (decide (kindAt t k ≠ 23) || (decide ((partsAt t fr k).length < 3) || !openN t fr ((partsAt t fr k).getD 1 0)))
/-- how deep; st: how deep the parts are that wait, the last one first -/
def deepF : List Nd → List Nat → List Nat
  | [], st => st
  | x :: l, st => deepF l (((st.take x.n.toNat).foldl max 0 + 1) :: st.drop x.n.toNat)
def deepN (t : List Nd) : Nat := (deepF t []).getD 0 0
/-- what is wrong with a tree -/
def checkN9 (t : List Nd) : Int :=
  if 4096 < t.length then 3
  else if t.all wellN = false then 90
  else match beginsN t with
    | none => 90
    | some fr => if (List.range t.length).all (fitsN t fr) = false then 90 else if 48 < deepN t then 3 else 0
end Go.Proofs.YtbbaooeioogijaaDoor
