/- What the rows' lists give: the tables that the program leans on; a world in which they stand so. -/
import Derived.Test.YtkokdafkjjcgoaaGreatDoorParts
import Derived.Test.YtkokdafkjjcgoaaGreatDoorRows
import Derived.Lib.LaidTab
import Derived.OpenShut
import Derived.LaidLaws
namespace Go.Proofs.YtkokdafkjjcgoaaGreatDoor
open Go.RowKit

theorem laidVars_mem {w : World} : ∀ {l : List (String × DataW Unit)} {ps : List MemPlace}, DataW.LaidVars Tryz.prog w l ps → ∀ (n : String) (d : DataW Unit), (n, d) ∈ l →
    ∃ g t cs fuel p, Tryz.prog.globalNamed n = some g ∧ (Tryz.prog.globals[g]?).map (·.type) = some t ∧ w.var? Tryz.prog n = some cs ∧ DataW.trod (fun _ => ()) Tryz.prog w 0 (fun _ => true) false fuel t cs.toList = some (d, p)
  | [], _, _, _, _, hm => by cases hm
  | (n', d') :: r, ps, h, n, d, hm => by
    obtain ⟨g, t, cs, fuel, p, q, h1, h2, h3, h4, h5, _⟩ := h
    rcases List.mem_cons.1 hm with e | hm'
    · simp only [Prod.mk.injEq] at e
      obtain ⟨rfl, rfl⟩ := e
      exact ⟨g, t, cs, fuel, p, h1, h2, h3, h4⟩
    · exact laidVars_mem h5 n d hm'

theorem strs_of_tab {w : World} {base fuel n : Nat} {sp : Nat → Bool} {held : Bool} {t e : TypeId} {cs : List Value} {zs : List (List UInt8)} {p : List MemPlace}
    (ht : Tryz.prog.underlying t = some (.array n e)) (he : Tryz.prog.underlying e = some .string) (hce : Tryz.prog.cellsOf e = 1) (hct : Tryz.prog.cellsOf t = n)
    (h : DataW.trod (fun _ => ()) Tryz.prog w base sp held fuel t cs = some (.agg (zs.map fun z => .lit (.string z)), p)) : ∀ j, j < zs.length → cs[j]? = some (.string ⟨(zs.getD j []).toArray⟩) := by
  obtain ⟨xs, m, _, hx, hl, hxl, hf⟩ := DataW.trod_array ht h
  simp only [Prod.mk.injEq, DataW.agg.injEq] at hx
  have hlen : zs.length = n := by have := congrArg List.length hx.1; simp at this; omega
  intro j hj
  have hjn : j < n := by omega
  have h1 := hf j hjn
  rw [hce, Nat.mul_one] at h1
  have hjc : j < cs.length := by omega
  rw [List.drop_eq_getElem_cons hjc, List.take_succ_cons, List.take_zero, List.getElem?_eq_getElem (by omega)] at h1
  obtain ⟨s, e1, e2, _⟩ := DataW.trod_string he h1
  simp only [List.cons.injEq, and_true] at e1
  rw [List.getElem?_eq_getElem hjc, e1]
  have h3 : (xs.map (·.1))[j]? = some (.lit (.string s.data.toList)) := by
    rw [List.getElem?_map, List.getElem?_eq_getElem (by omega), e2]; rfl
  rw [← hx.1, List.getElem?_map, List.getElem?_eq_getElem hj] at h3
  simp only [Option.map_some, Option.some.injEq, DataW.lit.injEq, Lit.string.injEq] at h3
  rw [getD_lt _ _ hj, h3]

theorem keysG : Tryz.prog.globalNamed "catapult/lex.keys" = some 1 := by kernel_rfl
theorem keysT : (Tryz.prog.globals[1]?).map (·.type) = some 247 := by kernel_rfl
theorem cells20s : Tryz.prog.cellsOf 247 = 20 := by kernel_rfl
theorem cellsS : Tryz.prog.cellsOf 9 = 1 := by kernel_rfl
theorem keys_laid {w : World} {l : List (String × DataW Unit)} (h : laidMet Tryz.prog l w) (hm : ("catapult/lex.keys", Rows.laid_catapult_lex_keys) ∈ l) : KeysAt w := by
  obtain ⟨ps, hv, _⟩ := h
  obtain ⟨g, t, cs, fuel, p, h1, h2, h3, h4⟩ := laidVars_mem hv _ _ hm
  obtain rfl := Option.some.inj (keysG.symm.trans h1)
  obtain rfl := Option.some.inj (keysT.symm.trans h2)
  have h5 := strs_of_tab (zs := keyT.map (·.data.toList)) Tryz.underlying247 Tryz.underlying9 cellsS cells20s h4
  intro j hj
  rw [Nat.zero_add, World.var?_cell keysG h3 j]
  have h6 := h5 j (by rw [List.length_map]; exact hj)
  rw [getD_lt _ _ (by rw [List.length_map]; exact hj), List.getElem_map] at h6
  rw [getD_lt _ _ hj]
  simpa using h6
/-- the library's own bound holds some number -/
theorem maxl_shaped {w : World} (h : w.ShapedOpen Tryz.prog) : MaxLenAt w := Tryz.laysM219.s1_3 w h
theorem te_laid {w : World} {l : List (String × DataW Unit)} (h : laidMet Tryz.prog l w) (hs : w.ShapedOpen Tryz.prog) (h2 : ("catapult/lex.keys", Rows.laid_catapult_lex_keys) ∈ l) : TE w := ⟨keys_laid h h2, maxl_shaped hs⟩
/-- the cells of a table, off what it reads as -/
def tabCells : DataW Unit → Array Value
  | .agg l => (l.map fun d => match d with
    | .lit (.int k n) => Value.int k n
    | .lit (.string s) => Value.string ⟨s.toArray⟩
    | _ => Value.bool false).toArray
  | _ => #[]

/-- a world for the witness: the settled one, the listed variables as they are laid -/
noncomputable def envWorld (os : Os) : World :=
  let w0 := World.holding Tryz.prog os ⟨#[], #[], []⟩
  let put (h : Array Obj) (g : Nat) (cs : Array Value) : Array Obj := h.modify g fun
    | .cells _ t frozen => .cells cs t frozen
    | o => o
  let h1 := put (put w0.heap 1 (tabCells Rows.laid_catapult_lex_keys)) 3 (tabCells Rows.laid_internal_strconv_uint64pow10)
  let h2 := put (put h1 6 (tabCells Rows.laid_math_bits_deBruijn32tab)) 7 (tabCells Rows.laid_math_bits_deBruijn64tab)
  { w0 with heap := h2 }

end Go.Proofs.YtkokdafkjjcgoaaGreatDoor

