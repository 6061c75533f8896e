/- For every program of three-address code: a right program stays right without its last function, if nobody names that; a right function stays right with one block more that nobody comes to, and one register more: the law answers true, and the program reads as it did. Conditions: the tables of keywords and of powers of ten stand as the program's text lays them. -/
import Derived.Test.YtlomdlblohnfmaaDoorCards
import Derived.Test.YtlomdlblohnfmaaDoorTie
import Derived.Test.YtlomdlblohnfmaaDoorIrLaid
import Derived.Test.YtlomdlblohnfmaaDoorPost
import Derived.Test.YtlomdlblohnfmaaDoorIrLess2
import Derived.Test.YtlomdlblohnfmaaDoorOpenM
import Derived.ProofKit
import Derived.OpenShut
import Derived.JoinedCond
import Derived.Deep.DeepHandedRow
import Derived.SizedLaws
namespace Go.Proofs.YtlomdlblohnfmaaDoor.irLess
open Go.ChangeShapes Go.WideShapes Go.ChangeAt Go.RowKit

theorem own : ownKnob Tryd.prog.godebug = none := by kernel_rfl

/-- the cells of a table, off what it reads as -/
def tabOf : DataW Unit → Array Value
  | .agg l => (l.map fun d => match d with
    | .lit (.int k n) => Value.int k n
    | .lit (.string s) => Value.string ⟨s.toArray⟩
    | _ => Value.bool false).toArray
  | _ => #[]
theorem irLess_ok (x : IrP) (gv sv fv : Value) (w : World) (hE : IE w) (hk : 0 < w.heap.size) (hP : IsPr w.heap.size w x gv sv fv) (hcap : ∀ a n c, fv = .slice a n c → x.funcs.length ≤ c) :
    Calls Tryd.prog 3 #[.agg #[gv, sv, fv]] w fun e w' => e = .returned (.bool true) ∧ Below w.heap.size w w' := by
  by_cases h : checkP x = (0, 0)
  · by_cases h0 : x.funcs = []
    · exact less_none x gv sv fv w hE hk hP h h0
    · have := List.length_pos_iff.2 h0
      exact less_main x gv sv fv w hE hk hP hcap h (x.funcs.length - 1) (by omega)
  · exact less_wrong x gv sv fv w hE hk hP h

set_option maxRecDepth 100000 in
set_option maxHeartbeats 4000000 in
theorem contract (H : Type) (enc : TypeId × Value → H) (W : World) (base : Nat) (args : Array Value) (ds gs : List (DataW H)) (before : List MemPlace)
    (hval : ∀ (j : Nat) t v, Tryd.f3.params[j]? = some t → args[j]? = some v → Value.okWide Tryd.prog W .any base t v)
    (hW : DataW.Whole enc Tryd.prog Tryd.f3.params.toList Rows.irLessSpec.vars false W args.toList ds gs before) (hw : (DataW.weightsEach Tryd.prog (Tryd.f3.params.toList ++ (OpenSpec.ofChange Rows.irLessSpec).bare.plain.varTypes Tryd.prog) (ds ++ gs)).all (· ≤ reachBytes) = true) (hL : laidMetH Tryd.prog Rows.irLessRow.laid W) (_hS : W.ShapedOpen Tryd.prog) :
    Calls Tryd.prog 3 args W fun e W' => ∃ v, e = .returned v ∧ Rows.irLessSpec.post enc Tryd.prog Tryd.f3 false true false false W args v W' := by
  have hL' : laidMet Tryd.prog Rows.irLessRow.laid W := hL
  have hW' := hW
  obtain ⟨p, q, hA, hV, rfl, hfz, hnd⟩ := hW
  rw [Tryd.params3] at hA hval
  obtain ⟨v0, vs0, d0, ds0, p0, q0, hargs, rfl, rfl, h0, r0⟩ := trodAll_cons hA
  obtain ⟨rfl, rfl, rfl⟩ := trodAll_nil r0
  obtain rfl : args = #[v0] := by cases args; simp_all
  obtain ⟨rfl, rfl⟩ := trodVars_none hV
  obtain ⟨cs, rfl, _⟩ := okWide_struct Tryd.underlying26 (hval 0 26 v0 rfl rfl)
  obtain ⟨fuel, hf⟩ := h0
  obtain ⟨hP, hg⟩ := pow18_laid hL' (.tail _ (.tail _ (.head _)))
  have hK := keys18_laid hL' (.tail _ (.tail _ (.tail _ (.head _))))
  have hkg : 0 < W.heap.size := World.block_lt_of_cell? W _ (hK 0 (by decide))
  have hft : ∀ n ∈ d0.weights Tryd.prog 26, n ≤ 140737488351232 := fun n hn => by
    have h1 := List.all_eq_true.1 hw n (DataW.weights_mem_each (j := 0) (t := 26) (d := d0) (by rw [Tryd.params3]; rfl) rfl n hn)
    have hr : reachBytes = 140737488351232 := rfl
    rw [hr] at h1
    exact of_decide_eq_true h1
  obtain ⟨x, gv, sv, fv, hc, hpr, hcap⟩ := open_ir weights_fits hf hft
  have hcs : cs = #[gv, sv, fv] := by
    have h : cs.toList = _ := hc
    rw [← Array.toArray_toList (xs := cs), h]
  subst hcs
  refine (irLess_ok x gv sv fv W ⟨hK, hP, hg⟩ hkg hpr hcap).mono fun e W' ⟨he, hbw⟩ => ?_
  subst he
  exact ⟨_, rfl, law_post hW' rfl (by kernel_rfl) (by kernel_rfl) (by rw [Tryd.params3]; intro t ht; simp at ht; subst ht; exact ⟨by kernel_rfl, of_decide_eq_true (by kernel_rfl)⟩) rfl hbw⟩

/-- a world for the witness: the settled one, the listed tables as they are laid -/
noncomputable def laidWorld (os : Os) : World :=
  let w := World.holding Tryd.prog os ⟨#[], #[], []⟩
  let put (w : World) (g : Nat) (cs : Array Value) : World := { w with heap := w.heap.modify g fun
      | .cells _ t frozen => .cells cs t frozen
      | o => o }
  put (put (put (put w 0 (keyT.map Value.string).toArray) 1 ((List.range 20).map fun i => Value.int .u64 ((10 ^ i : Nat) : Int)).toArray)
    3 (tabOf Rows.laid_math_bits_deBruijn32tab)) 4 (tabOf Rows.laid_math_bits_deBruijn64tab)
theorem laid_met (os : Os) : laidMet Tryd.prog Rows.irLessRow.laid ((laidWorld os).forCall (fun _ _ => 0) ⟨#[], #[.agg #[.slice none 0 0, .slice none 0 0, .slice none 0 0]], []⟩).memory :=
  laidMet_of_run' 8 (by kernel_rfl) (by kernel_rfl)
theorem reads (os : Os) {H : Type} (enc : TypeId × Value → H) : ∃ places, DataW.whole enc Tryd.prog ((laidWorld os).forCall (fun _ _ => 0) ⟨#[], #[.agg #[.slice none 0 0, .slice none 0 0, .slice none 0 0]], []⟩).memory Tryd.f3.params.toList Rows.irLessSpec.vars false (#[.agg #[.slice none 0 0, .slice none 0 0, .slice none 0 0]] : Array Value).toList 8 = some ([.agg [.nil, .nil, .nil]], [], places) :=
  ⟨[], by kernel_rfl⟩

set_option maxRecDepth 100000 in
theorem lifted (os : Os) (started : os.Started) (H : Type) (enc : TypeId × Value → H) (F : Stop.Interp) :
    ReturnsInHanded {} Tryd.checked os 3 .any ((OpenSpec.ofChange Rows.irLessSpec).preRow enc Tryd.prog Tryd.f3 Rows.irLessRow.domain false Rows.irLessRow.laid) (((OpenSpec.ofChange Rows.irLessSpec).at F).post enc Tryd.prog Tryd.f3 false true false false) := by
  obtain ⟨places, hx⟩ := reads os enc
  refine returnsInHanded_of_row (C := Tryd.checked) (s := OpenSpec.ofChange Rows.irLessSpec) own started (by kernel_rfl) Tryd.func3
    (witness_row_at (enc := enc) (C := Tryd.checked) false (laidWorld os) #[.agg #[.slice none 0 0, .slice none 0 0, .slice none 0 0]] rfl (by kernel_rfl) (by kernel_rfl) (by kernel_rfl)
      (OpenSpec.preRow_of_cond 8 hx (by kernel_rfl) (fun k hk => by cases hk) (by kernel_rfl) (laid_met os))) ?_
  intro W base args ds gs before hval hW _ hcond hw hL hS _
  exact contract H enc W base args ds gs before hval hW hw hL hS

theorem said : Rows.IrLessSaid :=
  OpenClaim.holds_of_cond 3 Tryd.f3 rfl rfl rfl rfl rfl rfl rfl ⟨rfl, rfl, rfl, rfl, rfl⟩ rfl rfl rfl rfl rfl (by kernel_rfl) Tryd.func3 (by kernel_rfl)
    (of_decide_eq_true (by kernel_rfl)) (by unfold Func.isWrapper; rw [if_neg (by decide +kernel)]; exact ⟨rfl, rfl⟩)
    (fun os started H enc _ F => by rw [OpenClaim.pre_eq_preRow]; exact lifted os started H enc F)

theorem plain (f : FuncId) (fn : Func) (hf : Tryd.pinned.checked.prog.funcNamed "catapult/catapultlaw18.IrLess" = some f) (hfn : Tryd.pinned.checked.prog.funcs[f]? = some fn) :
    false = Tryd.pinned.checked.prog.looks [] ∧ ∀ (j : Nat) t, fn.params[j]? = some t → Tryd.pinned.checked.prog.wantsStandIn t = false := by
  obtain rfl : f = 3 := Option.some.inj ((show Tryd.prog.funcNamed "catapult/catapultlaw18.IrLess" = some 3 by kernel_rfl).symm.trans hf) |>.symm
  obtain rfl : fn = Tryd.f3 := (Option.some.inj (Tryd.func3.symm.trans hfn)).symm
  refine ⟨by kernel_rfl, fun j t ht => ?_⟩
  rw [Tryd.params3] at ht
  obtain rfl : t = 26 := by simpa using Array.mem_of_getElem? ht
  exact (show Tryd.prog.wantsStandIn 26 = false by kernel_rfl)

theorem card : Rows.IrLessCardSaid :=
  Claim7.holds_tied_plain_at .later [] _ _ _ _ said (fun _ h => by cases h) (by kernel_rfl) (fun _ h => by cases h) irLess_row_tie rfl ⟨rfl, rfl⟩ (by kernel_rfl) rfl plain (by kernel_rfl)
#print axioms card
end Go.Proofs.YtlomdlblohnfmaaDoor.irLess

