/- What the rows' lists give: all tables and variables that the reader leans on; a world in which they stand so. -/
import Derived.Test.YtncojfcdkigmiaaDoorLaid
import Derived.Test.YtncojfcdkigmiaaDoorWorks
import Derived.LaidLaws
namespace Go.Proofs.YtncojfcdkigmiaaDoor
open Go.RowKit

theorem errSG : Tryd.prog.globalNamed "strconv.ErrSyntax" = some 4 := by kernel_rfl
theorem errST : (Tryd.prog.globals[4]?).map (·.type) = some 74 := by kernel_rfl
theorem errRG : Tryd.prog.globalNamed "strconv.ErrRange" = some 5 := by kernel_rfl
theorem errRT : (Tryd.prog.globals[5]?).map (·.type) = some 74 := by kernel_rfl

theorem err_laid {w : World} {l : List (String × DataW Unit)} {n nm : String} {g : Nat} {d : DataW Unit} (h : laidMet Tryd.prog l w) (hG : Tryd.prog.globalNamed n = some g) (hT : (Tryd.prog.globals[g]?).map (·.type) = some 74) (hm : (n, DataW.iface nm d) ∈ l) :
    ∃ ev, w.cell? ⟨g, 0, none⟩ = some ev ∧ (ev = .nilIface ∨ ∃ te pe, ev = .iface te pe) := by
  obtain ⟨ps, hv, _⟩ := h
  obtain ⟨g', t, cs, fuel, p, h1, h2, h3, h4⟩ := laidVars_mem hv _ _ hm
  obtain rfl := Option.some.inj (hG.symm.trans h1)
  obtain rfl := Option.some.inj (hT.symm.trans h2)
  obtain ⟨_, u, v, hc, _⟩ := iface_of_trod Tryd.underlying74 h4
  refine ⟨.iface u v, ?_, .inr ⟨u, v, rfl⟩⟩
  rw [World.var?_cell hG h3 0]
  have : cs.toList[0]? = some (.iface u v) := by rw [hc]; rfl
  simpa using this

theorem env_laid {w : World} {l : List (String × DataW Unit)} (h : laidMet Tryd.prog l w) (hs : w.ShapedOpen Tryd.prog) (h1 : ("strconv.ErrRange", Rows.laid_strconv_ErrRange) ∈ l) (h2 : ("strconv.ErrSyntax", Rows.laid_strconv_ErrSyntax) ∈ l)
    (h3 : ("catapult/lex.keys", Rows.laid_catapult_lex_keys) ∈ l) (h4 : ("catapult/lex.marks", Rows.laid_catapult_lex_marks) ∈ l) : Env w :=
  ⟨keys_laid h h3, marks_laid h h4, ⟨err_laid h errSG errST h2, err_laid h errRG errRT h1⟩, maxl_shaped hs⟩

/-- the cells of a table, off what it reads as -/
def tabCells : DataW Unit → Array Value
  | .agg l => (l.map fun d => match d with
    | .lit (.int k n) => Value.int k n
    | .lit (.string s) => Value.string ⟨s.toArray⟩
    | _ => Value.bool false).toArray
  | _ => #[]

/-- a world for the witness: the settled one, with two blocks more (the errors' texts), the listed variables as they are laid -/
noncomputable def envWorld (os : Os) : World :=
  let N := (World.settled Tryd.prog os).heap.size
  let w0 := World.holding Tryd.prog os ⟨#[.cells #[.string ⟨#[118, 97, 108, 117, 101, 32, 111, 117, 116, 32, 111, 102, 32, 114, 97, 110, 103, 101]⟩] 132, .cells #[.string ⟨#[105, 110, 118, 97, 108, 105, 100, 32, 115, 121, 110, 116, 97, 120]⟩] 132], #[], []⟩
  let put (h : Array Obj) (g : Nat) (cs : Array Value) : Array Obj := h.modify g fun
    | .cells _ t frozen => .cells cs t frozen
    | o => o
  let h0 := put (put w0.heap 0 (keyT.map Value.string).toArray) 1 (markT.map Value.string).toArray
  let h1 := put h0 3 ((List.range 20).map fun i => Value.int .u64 ((10 ^ i : Nat) : Int)).toArray
  let h2 := put (put h1 6 (tabCells Rows.laid_math_bits_deBruijn32tab)) 7 (tabCells Rows.laid_math_bits_deBruijn64tab)
  let h3 := put (put h2 5 #[.iface 130 (.pointer (some ⟨N, 0, none⟩))]) 4 #[.iface 130 (.pointer (some ⟨N + 1, 0, none⟩))]
  { w0 with heap := h3 }

end Go.Proofs.YtncojfcdkigmiaaDoor
