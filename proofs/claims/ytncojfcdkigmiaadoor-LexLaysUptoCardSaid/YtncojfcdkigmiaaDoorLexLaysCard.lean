/- For every list of tokens (within the bound) both texts lay it out, or refuse it, alike, and the list stays as it was: the law answers true. Conditions: the tables of keywords, marks and powers of ten stand as the program's text lays them. -/
import Derived.Test.YtncojfcdkigmiaaDoorCards
import Derived.Test.YtncojfcdkigmiaaDoorTie
import Derived.Test.YtncojfcdkigmiaaDoorLaid
import Derived.Test.YtncojfcdkigmiaaDoorOpenTok
import Derived.Test.YtncojfcdkigmiaaDoorPost
import Derived.Deep.DeepHandedRow
namespace Go.Proofs.YtncojfcdkigmiaaDoor.lexLays
open Go.ChangeShapes Go.WideShapes Go.ChangeAt Go.RowKit

theorem own : ownKnob Tryd.prog.godebug = none := by kernel_rfl

/-- the cells of a table, off what it reads as -/
def tabOf : DataW Unit → Array Value
  | .agg l => (l.map fun d => match d with
    | .lit (.int k n) => Value.int k n
    | .lit (.string s) => Value.string ⟨s.toArray⟩
    | _ => Value.bool false).toArray
  | _ => #[]

theorem toks_bulk {H : Type} {L : List Tok} {rest : List (DataW H)} (h : Rows.uptoBulk (DataW.slice (L.map Tok.data) rest) ≤ 1048576) : L.length ≤ 1048576 ∧ ∀ t ∈ L, t.text.size ≤ 1048576 := by
  simp only [Rows.uptoBulk] at h
  refine ⟨?_, fun t ht => ?_⟩
  · have := bulk_length (L.map (Tok.data (H := H)))
    rw [List.length_map] at this
    omega
  · have h1 := bulk_part (List.mem_map_of_mem (f := Tok.data (H := H)) ht)
    have e : t.text.data.toList.length = t.text.size := by rw [Array.length_toList]; rfl
    simp only [Tok.data, Rows.uptoBulk, Rows.uptoBulkAll] at h1
    omega

theorem walk (W : World) (H : Type) (enc : TypeId × Value → H) (fuel : Nat) (v : Value) (x : DataW H × List MemPlace) (h : DataW.trod enc Tryd.prog W 0 (fun _ => true) true fuel 22 [v] = some x)
    (hk : Rows.uptoBulk x.1 ≤ 1048576) (hK : KeysAt W) (hM : MarksAt W) (hP : PowAt W) (hg : 3 < W.heap.size) :
    Calls Tryd.prog 3 #[v] W fun e w' => e = .returned (.bool true) ∧ Below W.heap.size W w' := by
  rcases open_toks h with ⟨rfl, _⟩ | ⟨b, off, cap, sp, L, rest, rfl, hx, hne, hok⟩
  · exact lays_nil W hK hM hP hg
  · rw [hx] at hk
    obtain ⟨hn, hs⟩ := toks_bulk hk
    have hok' : ∀ t ∈ L, TokOk t := fun t ht => ⟨by have := (hok t ht).1; omega, (hok t ht).2, hs t ht⟩
    by_cases h0 : L = []
    · exact lays_empty ⟨b, off, sp⟩ cap L W h0 hn hok' hK hM hP hg
    · obtain ⟨rfl, hr, hb⟩ := hne h0
      exact lays_some b off cap L W hr hb hn hok' hK hM hP hg

set_option maxRecDepth 100000 in
theorem contract (H : Type) (enc : TypeId × Value → H) (W : World) (base : Nat) (args : Array Value) (ds gs : List (DataW H)) (before : List MemPlace)
    (hval : ∀ (j : Nat) t v, Tryd.f3.params[j]? = some t → args[j]? = some v → Value.okWide Tryd.prog W .any base t v)
    (hW : DataW.Whole enc Tryd.prog Tryd.f3.params.toList Rows.lexLaysSpec.vars false W args.toList ds gs before) (hk : Rows.uptoSmall H (ds ++ gs) = true) (hL : laidMetH Tryd.prog Rows.lexLaysUptoRow.laid W) :
    Calls Tryd.prog 3 args W fun e W' => ∃ v, e = .returned v ∧ Rows.lexLaysSpec.post enc Tryd.prog Tryd.f3 false true false false W args v W' := by
  have hL' : laidMet Tryd.prog Rows.lexLaysUptoRow.laid W := hL
  have hW' := hW
  obtain ⟨p, q, hA, hV, rfl, hfz, hnd⟩ := hW
  rw [Tryd.params3] at hA hval
  obtain ⟨v0, vs0, d0, ds0, p0, q0, hargs, rfl, rfl, h0, r0⟩ := trodAll_cons hA
  obtain ⟨rfl, rfl, rfl⟩ := trodAll_nil r0
  obtain rfl : args = #[v0] := by cases args; simp_all
  obtain ⟨rfl, rfl⟩ := trodVars_none hV
  obtain ⟨a0, len, cap, rfl⟩ := okWide_slice Tryd.underlying22 (hval 0 22 v0 rfl rfl)
  obtain ⟨fuel, hf⟩ := h0
  obtain ⟨hP, hg⟩ := pow_laid hL' (.tail _ (.tail _ (.head _)))
  have hb : Rows.uptoBulk d0 ≤ 1048576 := by
    have h : Rows.uptoBulkAll ([d0] ++ []) ≤ 1048576 := of_decide_eq_true hk
    rw [List.append_nil] at h
    simp only [Rows.uptoBulkAll] at h
    omega
  refine (walk W H enc fuel _ (d0, p0) hf hb (keys_laid hL' (.tail _ (.tail _ (.tail _ (.head _))))) (marks_laid hL' (.tail _ (.tail _ (.tail _ (.tail _ (.head _)))))) hP hg).mono fun e W' ⟨he, hbw⟩ => ?_
  subst he
  exact ⟨_, rfl, law_post hW' rfl (by kernel_rfl) (by kernel_rfl) (by rw [Tryd.params3]; intro t ht; simp at ht; subst ht; exact ⟨by kernel_rfl, of_decide_eq_true (by kernel_rfl)⟩) rfl hbw⟩

/-- a world for the witness: the settled one, the listed tables as they are laid -/
noncomputable def laidWorld (os : Os) : World :=
  let w := World.holding Tryd.prog os ⟨#[], #[], []⟩
  let put (w : World) (g : Nat) (cs : Array Value) : World := { w with heap := w.heap.modify g fun
      | .cells _ t frozen => .cells cs t frozen
      | o => o }
  put (put (put (put (put w 0 (keyT.map Value.string).toArray) 1 (markT.map Value.string).toArray) 3 ((List.range 20).map fun i => Value.int .u64 ((10 ^ i : Nat) : Int)).toArray)
    6 (tabOf Rows.laid_math_bits_deBruijn32tab)) 7 (tabOf Rows.laid_math_bits_deBruijn64tab)
theorem laid_met (os : Os) : laidMet Tryd.prog Rows.lexLaysUptoRow.laid ((laidWorld os).forCall (fun _ _ => 0) ⟨#[], #[.slice none 0 0], []⟩).memory :=
  laidMet_of_run' 8 (by kernel_rfl) (by kernel_rfl)
theorem reads (os : Os) {H : Type} (enc : TypeId × Value → H) : ∃ places, DataW.whole enc Tryd.prog ((laidWorld os).forCall (fun _ _ => 0) ⟨#[], #[.slice none 0 0], []⟩).memory Tryd.f3.params.toList Rows.lexLaysSpec.vars false #[Value.slice none 0 0].toList 8 = some ([.nil], [], places) :=
  ⟨[], by kernel_rfl⟩

set_option maxRecDepth 100000 in
theorem liftedUpto (os : Os) (started : os.Started) (H : Type) (enc : TypeId × Value → H) (F : Stop.Interp) :
    ReturnsInHanded {} Tryd.checked os 3 .any ((Rows.OpenSpec.upto Rows.lexLaysSpec).preRow enc Tryd.prog Tryd.f3 Rows.lexLaysUptoRow.domain false Rows.lexLaysUptoRow.laid) (((Rows.OpenSpec.upto Rows.lexLaysSpec).at F).post enc Tryd.prog Tryd.f3 false true false false) := by
  obtain ⟨places, hx⟩ := reads os enc
  refine returnsInHanded_of_row (C := Tryd.checked) (s := Rows.OpenSpec.upto Rows.lexLaysSpec) own started (by kernel_rfl) Tryd.func3
    (witness_row_at (enc := enc) (C := Tryd.checked) false (laidWorld os) #[.slice none 0 0] rfl (by kernel_rfl) (by kernel_rfl) (by kernel_rfl)
      (OpenSpec.preRow_of_cond 8 hx (by kernel_rfl) (fun k hk => by cases hk; kernel_rfl) (by kernel_rfl) (laid_met os))) ?_
  intro W base args ds gs before hval hW _ hcond _ hL _ _
  exact contract H enc W base args ds gs before hval hW (hcond _ rfl) hL

theorem saidUpto : Rows.LexLaysUptoSaid :=
  OpenClaim.holds_of_cond 3 Tryd.f3 rfl rfl rfl rfl rfl rfl rfl ⟨rfl, rfl, rfl, rfl, rfl⟩ rfl rfl rfl rfl rfl (by kernel_rfl) Tryd.func3 (by kernel_rfl)
    (of_decide_eq_true (by kernel_rfl)) (by unfold Func.isWrapper; rw [if_neg (by decide +kernel)]; exact ⟨rfl, rfl⟩)
    (fun os started H enc _ F => by rw [OpenClaim.pre_eq_preRow]; exact liftedUpto os started H enc F)

theorem plain (f : FuncId) (fn : Func) (hf : Tryd.pinned.checked.prog.funcNamed "catapult/catapultlaw07.LexLays" = some f) (hfn : Tryd.pinned.checked.prog.funcs[f]? = some fn) :
    true = Tryd.pinned.checked.prog.looks [] ∧ ∀ (j : Nat) t, fn.params[j]? = some t → Tryd.pinned.checked.prog.wantsStandIn t = false := by
  obtain rfl : f = 3 := Option.some.inj ((show Tryd.prog.funcNamed "catapult/catapultlaw07.LexLays" = some 3 by kernel_rfl).symm.trans hf) |>.symm
  obtain rfl : fn = Tryd.f3 := (Option.some.inj (Tryd.func3.symm.trans hfn)).symm
  refine ⟨by kernel_rfl, fun j t ht => ?_⟩
  rw [Tryd.params3] at ht
  obtain rfl : t = 22 := by simpa using Array.mem_of_getElem? ht
  exact (show Tryd.prog.wantsStandIn 22 = false by kernel_rfl)

theorem cardUpto : Rows.LexLaysUptoCardSaid :=
  Claim7.holds_tied_plain_at .later [] _ _ _ _ saidUpto (fun _ h => by cases h) (by kernel_rfl) (fun _ h => by cases h) lexLaysUpto_row_tie rfl ⟨rfl, rfl⟩ (by kernel_rfl) rfl plain (by kernel_rfl)
#print axioms cardUpto
end Go.Proofs.YtncojfcdkigmiaaDoor.lexLays
