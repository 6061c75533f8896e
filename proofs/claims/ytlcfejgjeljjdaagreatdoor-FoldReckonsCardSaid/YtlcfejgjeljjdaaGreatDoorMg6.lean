/- What becomes of types: the program. · What the rows' lists give: the tables that the program leans on; a world in which they stand so. · A world for the witness: the table of words as it is laid. · The rows' last step, alike for all laws: the arguments read as before in any world that keeps what lay below; what the bound on the bulk gives. · Numbers of the integer types. Plain: nothing of the program. -/
import Derived.Test.YtlcfejgjeljjdaaGreatDoorSplit
import Derived.Test.YtlcfejgjeljjdaaGreatDoorMg1
import Derived.Test.YtlcfejgjeljjdaaGreatDoorChecked
import Derived.Test.YtlcfejgjeljjdaaGreatDoorShelf
import Derived.Test.YtlcfejgjeljjdaaGreatDoorRows
import Derived.Lib.LaidTab
import Derived.OpenShut
import Derived.LaidLaws
import Derived.ProofKit
import Derived.JoinedCond
namespace Go.Proofs.YtlcfejgjeljjdaaGreatDoor
open Go.RowKit

/-- the tables that lie under types -/
structure TE (w : World) : Prop where
  keys : KeysAt w
  maxl : MaxLenAt w
theorem TE.below {w w' : World} (h : TE w) (hb : Below w.heap.size w w') : TE w' := ⟨h.keys.below hb, h.maxl.below hb⟩
theorem TE.drewN {w : World} (h : TE w) (n : Nat) : TE (w.drewN n) := ⟨h.keys.drewN n, h.maxl.drewN n⟩
theorem TE.lt {w : World} (h : TE w) : 0 < w.heap.size := World.block_lt_of_cell? w _ (h.keys 0 (by decide))

theorem tyS_some {s : ByteArray} {t : Ty} : tyS s = some t ↔ s = tyB t ∧ Right t ∧ (code t).length ≤ 65536 := by
  unfold tyS
  have hl : s.data.toList.length = s.size := by rw [Array.length_toList]; rfl
  constructor
  · intro h
    split at h
    · obtain ⟨h1, h2⟩ := tyE_some.1 h
      exact ⟨tyB_eq h1, h2, by rw [← h1, hl]; assumption⟩
    · cases h
  · rintro ⟨rfl, h2, h3⟩
    rw [if_pos (by rw [tyB_size]; exact h3)]
    exact tyE_some.2 ⟨tyB_list t, h2⟩
theorem form_is (r : Bool) (s : ByteArray) (w : World) (hE : TE w) (hr : (tyS s).isSome = r) : Calls Tryz.prog 90 #[.string s] w fun e w' => e = .returned (.bool r) ∧ Below w.heap.size w w' := by
  subst hr; exact form_ok s w hE.keys hE.lt
theorem str_one (s : ByteArray) (c : UInt8) : (s.toList == [c]) = decide (s = ⟨#[c]⟩) := by
  rw [Bool.eq_iff_iff, beq_iff_eq, decide_eq_true_iff, Lib.toList_data]
  exact ⟨fun h => toList_eq (by rw [h]), fun h => by rw [h]⟩
theorem one_base {t : Ty} (h : Right t) (c : UInt8) : (tyB t = ⟨#[c]⟩) ↔ t = .base c := by
  constructor
  · intro e
    have e2 : code t = [c] := by rw [← tyB_list, e]
    cases t with
    | base d => simp [code] at e2; rw [e2]
    | ptr u => rw [code] at e2; have := code_pos (t := u) h; simp at e2; rw [e2.2] at this; simp at this
    | arr n u => rw [code] at e2; simp at e2
    | str s => rw [code] at e2; simp at e2
    | fn ps r => rw [code] at e2; simp at e2
  · rintro rfl; rfl

/-- an integer's type -/
def isIntS (s : ByteArray) : Bool := (tyS s).any isIntT
theorem isIntS_not {s : ByteArray} (h1 : s ≠ ⟨#[99]⟩) (h2 : s ≠ ⟨#[115]⟩) (h3 : s ≠ ⟨#[105]⟩) (h4 : s ≠ ⟨#[117]⟩) : isIntS s = false := by
  unfold isIntS
  rcases h : tyS s with _ | t
  · rfl
  · obtain ⟨rfl, hr, _⟩ := tyS_some.1 h
    cases t with
    | base c =>
      simp only [Option.any_some, isIntT, decide_eq_false_iff_not]
      rintro (rfl | rfl | rfl | rfl)
      · exact h1 rfl
      · exact h2 rfl
      · exact h3 rfl
      · exact h4 rfl
    | _ => rfl
theorem tyS_base {c : UInt8} (h : isBase c = true) : tyS ⟨#[c]⟩ = some (.base c) := tyS_some.2 ⟨rfl, h, by simp [code]⟩
theorem isInt_ok (s : ByteArray) (w : World) : Calls Tryz.prog 28 #[.string s] w fun e w' => e = .returned (.bool (isIntS s)) ∧ w' = w := by
  by_cases h1 : s = ⟨#[99]⟩
  · have hfin := Lib.hid (show isIntS s = true by rw [h1, isIntS, tyS_base (by decide)]; rfl)
    have t1 : (s.toList == [99]) = true := by rw [str_one]; simpa using h1
    clear h1
    go_enter Tryz.func28, Tryz.ntmps28
    go_wp2_with fail
    go_ret
    exact ⟨by rw [hfin.out]; rfl, rfl⟩
  · have t1 : (s.toList == [99]) = false := by rw [str_one]; simpa using h1
    by_cases h2 : s = ⟨#[115]⟩
    · have hfin := Lib.hid (show isIntS s = true by rw [h2, isIntS, tyS_base (by decide)]; rfl)
      have t2 : (s.toList == [115]) = true := by rw [str_one]; simpa using h2
      clear h1 h2
      go_enter Tryz.func28, Tryz.ntmps28
      go_wp2_with fail
      go_ret
      exact ⟨by rw [hfin.out]; rfl, rfl⟩
    · have t2 : (s.toList == [115]) = false := by rw [str_one]; simpa using h2
      by_cases h3 : s = ⟨#[105]⟩
      · have hfin := Lib.hid (show isIntS s = true by rw [h3, isIntS, tyS_base (by decide)]; rfl)
        have t3 : (s.toList == [105]) = true := by rw [str_one]; simpa using h3
        clear h1 h2 h3
        go_enter Tryz.func28, Tryz.ntmps28
        go_wp2_with fail
        go_ret
        exact ⟨by rw [hfin.out]; rfl, rfl⟩
      · have t3 : (s.toList == [105]) = false := by rw [str_one]; simpa using h3
        by_cases h4 : s = ⟨#[117]⟩
        · have hfin := Lib.hid (show isIntS s = true by rw [h4, isIntS, tyS_base (by decide)]; rfl)
          have t4 : (s.toList == [117]) = true := by rw [str_one]; simpa using h4
          clear h1 h2 h3 h4
          go_enter Tryz.func28, Tryz.ntmps28
          go_wp2_with fail
          go_ret
          exact ⟨by rw [hfin.out]; rfl, rfl⟩
        · have t4 : (s.toList == [117]) = false := by rw [str_one]; simpa using h4
          have hfin := Lib.hid (isIntS_not h1 h2 h3 h4)
          clear h1 h2 h3 h4
          go_enter Tryz.func28, Tryz.ntmps28
          go_wp2_with fail
          go_ret
          exact ⟨by rw [hfin.out]; rfl, rfl⟩
theorem isInt_is (r : Bool) (s : ByteArray) (w : World) (hr : isIntS s = r) : Calls Tryz.prog 28 #[.string s] w fun e w' => e = .returned (.bool r) ∧ w' = w := by subst hr; exact isInt_ok s w

/-- a scalar's type -/
def isScalS (s : ByteArray) : Bool := (tyS s).any isScalarT
theorem isScal_int {s : ByteArray} (h : isIntS s = true) : isScalS s = true := by
  unfold isIntS at h; unfold isScalS
  rcases hs : tyS s with _ | t
  · rw [hs] at h; cases h
  · rw [hs] at h; simp only [Option.any_some] at h ⊢; simp [isScalarT, h]
theorem isScal_ptr {s : ByteArray} (hi : isIntS s = false) (hk : 0 < s.size) (hc : s[0] = 112) : isScalS s = (tyS s).isSome := by
  unfold isScalS
  rcases hs : tyS s with _ | t
  · rfl
  · obtain ⟨rfl, hr, _⟩ := tyS_some.1 hs
    cases t with
    | ptr u => rfl
    | base c =>
      obtain ⟨_, h2⟩ := tyB_get (t := .base c) (c := c) (l := []) rfl
      rw [h2] at hc
      rw [hc] at hr
      exact absurd hr (by show ¬ isBase 112 = true; decide)
    | arr n u => obtain ⟨_, h2⟩ := tyB_get (t := .arr n u) rfl; rw [h2] at hc; exact absurd hc (by decide)
    | str n => obtain ⟨_, h2⟩ := tyB_get (t := .str n) rfl; rw [h2] at hc; exact absurd hc (by decide)
    | fn ps r => obtain ⟨_, h2⟩ := tyB_get (t := .fn ps r) rfl; rw [h2] at hc; exact absurd hc (by decide)
theorem isScal_no {s : ByteArray} (hi : isIntS s = false) (hc : ∀ h : 0 < s.size, s[0] ≠ 112) : isScalS s = false := by
  unfold isScalS
  unfold isIntS at hi
  rcases hs : tyS s with _ | t
  · rfl
  · obtain ⟨rfl, hr, _⟩ := tyS_some.1 hs
    rw [hs] at hi
    simp only [Option.any_some] at hi ⊢
    cases t with
    | ptr u => obtain ⟨h1, h2⟩ := tyB_get (t := .ptr u) rfl; exact absurd h2 (hc h1)
    | _ => simp [isScalarT, hi, isPtrT]

set_option maxHeartbeats 1000000 in
theorem isScalar_ok (s : ByteArray) (w : World) (hE : TE w) : Calls Tryz.prog 169 #[.string s] w fun e w' => e = .returned (.bool (isScalS s)) ∧ Below w.heap.size w w' := by
  have HE := Lib.hid hE
  clear hE
  rcases hi : isIntS s with _ | _
  · have HI := Lib.hid hi
    by_cases h0 : 0 < s.size
    · by_cases hc : s[0] = 112
      · have HF := Lib.hid (isScal_ptr hi h0 hc)
        have t0 : decide (0 < s.size) = true := by simpa using h0
        have t1 : ((s[0].toNat : Int) == 112) = true := by rw [hc]; rfl
        rcases hf : (tyS s).isSome with _ | _
        all_goals
          have HFm := Lib.hid (form_is _ s w HE.out hf)
          have hfin := Lib.hid (HF.out.trans hf)
          clear hi hc hf
          go_enter Tryz.func169, Tryz.ntmps169
          go_wp2_with (first | (go_at_call 28; (with_reducible refine (isInt_is _ s _ HI.out).mono ?_); rintro e w1 ⟨rfl, rfl⟩) | (go_at_call 90; (with_reducible refine HFm.out.mono ?_); rintro e w1 ⟨rfl, hb1⟩))
          go_ret
          exact ⟨by rw [hfin.out]; rfl, hb1⟩
      · have hfin := Lib.hid (isScal_no hi (fun _ => hc))
        have t0 : decide (0 < s.size) = true := by simpa using h0
        have t1 : ((s[0].toNat : Int) == 112) = false := by
          rw [beq_eq_false_iff_ne]; intro e
          exact hc (UInt8.toNat_inj.1 (by have : s[0].toNat = 112 := by omega
                                          simpa using this))
        clear hi hc
        go_enter Tryz.func169, Tryz.ntmps169
        go_wp2_with (first | (go_at_call 28; (with_reducible refine (isInt_is _ s _ HI.out).mono ?_); rintro e w1 ⟨rfl, rfl⟩))
        go_ret
        exact ⟨by rw [hfin.out]; rfl, Below.refl _ _⟩
    · have hfin := Lib.hid (isScal_no hi (fun h => absurd h h0))
      have t0 : decide (0 < s.size) = false := by simpa using h0
      clear hi
      go_enter Tryz.func169, Tryz.ntmps169
      go_wp2_with (first | (go_at_call 28; (with_reducible refine (isInt_is _ s _ HI.out).mono ?_); rintro e w1 ⟨rfl, rfl⟩))
      go_ret
      exact ⟨by rw [hfin.out]; rfl, Below.refl _ _⟩
  · have HI := Lib.hid hi
    have hfin := Lib.hid (isScal_int hi)
    clear hi
    go_enter Tryz.func169, Tryz.ntmps169
    go_wp2_with (first | (go_at_call 28; (with_reducible refine (isInt_is _ s _ HI.out).mono ?_); rintro e w1 ⟨rfl, rfl⟩))
    go_ret
    exact ⟨by rw [hfin.out]; rfl, Below.refl _ _⟩

end Go.Proofs.YtlcfejgjeljjdaaGreatDoor
namespace Go.Proofs.YtlcfejgjeljjdaaGreatDoor
open Go.RowKit

theorem laidVars_mem {w : World} : ∀ {l : List (String × DataW Unit)} {ps : List MemPlace}, DataW.LaidVars Tryz.prog w l ps → ∀ (n : String) (d : DataW Unit), (n, d) ∈ l →
    ∃ g t cs fuel p, Tryz.prog.globalNamed n = some g ∧ (Tryz.prog.globals[g]?).map (·.type) = some t ∧ w.var? Tryz.prog n = some cs ∧ DataW.trod (fun _ => ()) Tryz.prog w 0 (fun _ => true) false fuel t cs.toList = some (d, p)
  | [], _, _, _, _, hm => by cases hm
  | (n', d') :: r, ps, h, n, d, hm => by
    obtain ⟨g, t, cs, fuel, p, q, h1, h2, h3, h4, h5, _⟩ := h
    rcases List.mem_cons.1 hm with e | hm'
    · simp only [Prod.mk.injEq] at e
      obtain ⟨rfl, rfl⟩ := e
      exact ⟨g, t, cs, fuel, p, h1, h2, h3, h4⟩
    · exact laidVars_mem h5 n d hm'

theorem strs_of_tab {w : World} {base fuel n : Nat} {sp : Nat → Bool} {held : Bool} {t e : TypeId} {cs : List Value} {zs : List (List UInt8)} {p : List MemPlace}
    (ht : Tryz.prog.underlying t = some (.array n e)) (he : Tryz.prog.underlying e = some .string) (hce : Tryz.prog.cellsOf e = 1) (hct : Tryz.prog.cellsOf t = n)
    (h : DataW.trod (fun _ => ()) Tryz.prog w base sp held fuel t cs = some (.agg (zs.map fun z => .lit (.string z)), p)) : ∀ j, j < zs.length → cs[j]? = some (.string ⟨(zs.getD j []).toArray⟩) := by
  obtain ⟨xs, m, _, hx, hl, hxl, hf⟩ := DataW.trod_array ht h
  simp only [Prod.mk.injEq, DataW.agg.injEq] at hx
  have hlen : zs.length = n := by have := congrArg List.length hx.1; simp at this; omega
  intro j hj
  have hjn : j < n := by omega
  have h1 := hf j hjn
  rw [hce, Nat.mul_one] at h1
  have hjc : j < cs.length := by omega
  rw [List.drop_eq_getElem_cons hjc, List.take_succ_cons, List.take_zero, List.getElem?_eq_getElem (by omega)] at h1
  obtain ⟨s, e1, e2, _⟩ := DataW.trod_string he h1
  simp only [List.cons.injEq, and_true] at e1
  rw [List.getElem?_eq_getElem hjc, e1]
  have h3 : (xs.map (·.1))[j]? = some (.lit (.string s.data.toList)) := by
    rw [List.getElem?_map, List.getElem?_eq_getElem (by omega), e2]; rfl
  rw [← hx.1, List.getElem?_map, List.getElem?_eq_getElem hj] at h3
  simp only [Option.map_some, Option.some.injEq, DataW.lit.injEq, Lit.string.injEq] at h3
  rw [getD_lt _ _ hj, h3]

theorem keysG : Tryz.prog.globalNamed "catapult/lex.keys" = some 0 := by kernel_rfl
theorem keysT : (Tryz.prog.globals[0]?).map (·.type) = some 179 := by kernel_rfl
theorem cells20s : Tryz.prog.cellsOf 179 = 20 := by kernel_rfl
theorem cellsS : Tryz.prog.cellsOf 9 = 1 := by kernel_rfl
theorem keys_laid {w : World} {l : List (String × DataW Unit)} (h : laidMet Tryz.prog l w) (hm : ("catapult/lex.keys", Rows.laid_catapult_lex_keys) ∈ l) : KeysAt w := by
  obtain ⟨ps, hv, _⟩ := h
  obtain ⟨g, t, cs, fuel, p, h1, h2, h3, h4⟩ := laidVars_mem hv _ _ hm
  obtain rfl := Option.some.inj (keysG.symm.trans h1)
  obtain rfl := Option.some.inj (keysT.symm.trans h2)
  have h5 := strs_of_tab (zs := keyT.map (·.data.toList)) Tryz.underlying179 Tryz.underlying9 cellsS cells20s h4
  intro j hj
  rw [Nat.zero_add, World.var?_cell keysG h3 j]
  have h6 := h5 j (by rw [List.length_map]; exact hj)
  rw [getD_lt _ _ (by rw [List.length_map]; exact hj), List.getElem_map] at h6
  rw [getD_lt _ _ hj]
  simpa using h6
/-- the library's own bound holds some number -/
theorem maxl_shaped {w : World} (h : w.ShapedOpen Tryz.prog) : MaxLenAt w := Tryz.laysM219.s1_3 w h
theorem te_laid {w : World} {l : List (String × DataW Unit)} (h : laidMet Tryz.prog l w) (hs : w.ShapedOpen Tryz.prog) (h2 : ("catapult/lex.keys", Rows.laid_catapult_lex_keys) ∈ l) : TE w := ⟨keys_laid h h2, maxl_shaped hs⟩
/-- the cells of a table, off what it reads as -/
def tabCells : DataW Unit → Array Value
  | .agg l => (l.map fun d => match d with
    | .lit (.int k n) => Value.int k n
    | .lit (.string s) => Value.string ⟨s.toArray⟩
    | _ => Value.bool false).toArray
  | _ => #[]

end Go.Proofs.YtlcfejgjeljjdaaGreatDoor
namespace Go.Proofs.YtlcfejgjeljjdaaGreatDoor
open Go.RowKit

/-- a world for the witness: the settled one, the listed variable as it is laid -/
noncomputable def envWorld (os : Os) : World :=
  let w0 := World.holding Tryz.prog os ⟨#[], #[], []⟩
  let put (h : Array Obj) (g : Nat) (cs : Array Value) : Array Obj := h.modify g fun
    | .cells _ t frozen => .cells cs t frozen
    | o => o
  { w0 with heap := put w0.heap 0 (tabCells Rows.laid_catapult_lex_keys) }
end Go.Proofs.YtlcfejgjeljjdaaGreatDoor
namespace Go.Proofs.YtlcfejgjeljjdaaGreatDoor
open Go.ChangeShapes Go.WideShapes Go.ChangeAt Go.RowKit

theorem laidOut : laidOutB Tryz.prog = true := by kernel_rfl

section
variable {H : Type} {enc : TypeId × Value → H}
theorem all_stays {W W' : World} (hb : Below W.heap.size W W') : ∀ {ts : List TypeId} {vs : List Value} {ds : List (DataW H)} {ps : List MemPlace}, DataW.TrodAll enc Tryz.prog W 0 (fun _ => true) true ts vs ds ps →
    (∀ t ∈ ts, Tryz.prog.readableRec t = true ∧ t < Tryz.prog.types.size) → (∀ x ∈ ps, x.block < W.heap.size) → DataW.TrodAll enc Tryz.prog W' 0 (fun b => decide (b < W.heap.size)) true ts vs ds ps
  | [], vs, ds, ps, h, _, _ => by
    obtain ⟨rfl, rfl, rfl⟩ := trodAll_nil h
    exact trodAll_mk0
  | t :: ts, vs, ds, ps, h, ht, hx => by
    obtain ⟨v0, vs0, d0, ds0, p0, q0, rfl, rfl, rfl, h0, r0⟩ := trodAll_cons h
    have h1 := Below.trod laidOut (ht t (by simp)).1 (ht t (by simp)).2 h0 hb (fun x hxm => hx x (List.mem_append.2 (Or.inl hxm)))
    have h2 := all_stays hb r0 (fun u hu => ht u (by simp [hu])) (fun x hxm => hx x (List.mem_append.2 (Or.inr hxm)))
    exact trodAll_cons_mk h1 h2

/-- the last step of a law that tells 'true' -/
theorem law_post {f : Func} {s : ChangeSpec} {W W' : World} {args : Array Value} {ds : List (DataW H)} {before : List MemPlace}
    (hW : DataW.Whole enc Tryz.prog f.params.toList s.vars false W args.toList ds [] before) (hv : s.vars = []) (hr : f.resultTypes.toList = [4]) (hsz : f.resultTypes.size = 1)
    (hts : ∀ t ∈ f.params.toList, Tryz.prog.readableRec t = true ∧ t < Tryz.prog.types.size)
    (hfn : s.fn H (ds ++ []) = { results := [.lit (.bool true)], args := ds }) (hb : Below W.heap.size W W') : s.post enc Tryz.prog f false true false false W args (.bool true) W' := by
  have hlt : ∀ p ∈ before, p.block < W.heap.size := fun p hp => hW.lt p hp
  have hW0 := hW
  obtain ⟨p, q, hA, hV, rfl, _, _⟩ := hW0
  rw [hv] at hV
  obtain ⟨_, rfl⟩ := trodVars_none hV
  refine ⟨ds, [], p ++ [], [], p, [], hW, ?_, ?_, ?_, World.keptBut_mono (fun x hx => ⟨hx, Or.inr ?_⟩) (hb.frame (· ∈ p ++ [])), fun h => by cases h⟩
  · rw [hfn, hr, hsz]
    exact trodAll_cons_mk (shut_bool Tryz.underlying4 _) trodAll_mk0
  · rw [hfn]
    exact all_stays hb hA hts (fun x hx => hlt x (by simp [hx]))
  · rw [hfn, hv]
    exact rfl
  · exact List.mem_append.1 hx
end

end Go.Proofs.YtlcfejgjeljjdaaGreatDoor
namespace Go.Proofs.YtlcfejgjeljjdaaGreatDoor

/-- a number's low bits, with the sign -/
def sgnI (b : Nat) (n : Int) : Int := (n + 2 ^ (b - 1)) % 2 ^ b - 2 ^ (b - 1)
def uText12 : ByteArray := ⟨#[117]⟩
def cText12 : ByteArray := ⟨#[99]⟩
def sText12 : ByteArray := ⟨#[115]⟩
def iText12 : ByteArray := ⟨#[105]⟩
/-- a number as a type has it -/
def asI (n : Int) (t : ByteArray) : Int := if t = uText12 then n % 4294967296 else if t = cText12 then sgnI 8 n else if t = sText12 then sgnI 16 n else sgnI 32 n
theorem sgn8 (n : Int) : sgnI 8 n = (n + 128) % 256 - 128 := rfl
theorem sgn16 (n : Int) : sgnI 16 n = (n + 32768) % 65536 - 32768 := rfl
theorem sgn32 (n : Int) : sgnI 32 n = (n + 2147483648) % 4294967296 - 2147483648 := rfl
theorem asI_range (n : Int) (t : ByteArray) : -2147483648 ≤ asI n t ∧ asI n t < 4294967296 := by
  unfold asI
  split
  · omega
  split
  · rw [sgn8]; omega
  split
  · rw [sgn16]; omega
  · rw [sgn32]; omega
theorem asI_twice (n : Int) (t : ByteArray) : asI (asI n t) t = asI n t := by
  unfold asI
  split
  · omega
  split
  · rw [sgn8, sgn8]; omega
  split
  · rw [sgn16, sgn16]; omega
  · rw [sgn32, sgn32]; omega
/-- what a type keeps of a number is a matter of its word -/
theorem asI_mod {n m : Int} (h : n % 4294967296 = m % 4294967296) (t : ByteArray) : asI n t = asI m t := by
  unfold asI
  split
  · exact h
  split
  · rw [sgn8, sgn8]; omega
  split
  · rw [sgn16, sgn16]; omega
  · rw [sgn32, sgn32]; omega
/-- int and unsigned keep the word -/
theorem asI_word (n : Int) {t : ByteArray} (h : t = uText12 ∨ t = iText12) : asI n t % 4294967296 = n % 4294967296 := by
  unfold asI
  rcases h with rfl | rfl
  · rw [if_pos rfl]; omega
  · rw [if_neg (by decide), if_neg (by decide), if_neg (by decide), sgn32]; omega
/-- two types of numbers meet -/
def promI (t : ByteArray) : ByteArray := if t = uText12 then uText12 else iText12
def commI (x y : ByteArray) : ByteArray := if x = uText12 ∨ y = uText12 then uText12 else iText12
theorem commI_ui (x y : ByteArray) : commI x y = uText12 ∨ commI x y = iText12 := by
  unfold commI
  split
  · exact .inl rfl
  · exact .inr rfl
theorem promI_ui (t : ByteArray) : promI t = uText12 ∨ promI t = iText12 := by
  unfold promI
  split
  · exact .inl rfl
  · exact .inr rfl
/-- the program's product: of words, its lower word -/
def mulW (a b : Int) : Int := (a % 4294967296) * (b % 4294967296) % 4294967296
end Go.Proofs.YtlcfejgjeljjdaaGreatDoor
