/- What the rows' lists give: the tables that the program leans on; a world in which they stand so. -/
import Derived.Test.YtmmjmppfmjejkaaGreatDoorParts
import Derived.Test.YtmmjmppfmjejkaaGreatDoorRows
import Derived.Lib.LaidTab
import Derived.OpenShut
import Derived.LaidLaws
namespace Go.Proofs.YtmmjmppfmjejkaaGreatDoor
open Go.RowKit

theorem laidVars_mem {w : World} : ∀ {l : List (String × DataW Unit)} {ps : List MemPlace}, DataW.LaidVars Tryz.prog w l ps → ∀ (n : String) (d : DataW Unit), (n, d) ∈ l →
    ∃ g t cs fuel p, Tryz.prog.globalNamed n = some g ∧ (Tryz.prog.globals[g]?).map (·.type) = some t ∧ w.var? Tryz.prog n = some cs ∧ DataW.trod (fun _ => ()) Tryz.prog w 0 (fun _ => true) false fuel t cs.toList = some (d, p)
  | [], _, _, _, _, hm => by cases hm
  | (n', d') :: r, ps, h, n, d, hm => by
    obtain ⟨g, t, cs, fuel, p, q, h1, h2, h3, h4, h5, _⟩ := h
    rcases List.mem_cons.1 hm with e | hm'
    · simp only [Prod.mk.injEq] at e
      obtain ⟨rfl, rfl⟩ := e
      exact ⟨g, t, cs, fuel, p, h1, h2, h3, h4⟩
    · exact laidVars_mem h5 n d hm'

theorem strs_of_tab {w : World} {base fuel n : Nat} {sp : Nat → Bool} {held : Bool} {t e : TypeId} {cs : List Value} {zs : List (List UInt8)} {p : List MemPlace}
    (ht : Tryz.prog.underlying t = some (.array n e)) (he : Tryz.prog.underlying e = some .string) (hce : Tryz.prog.cellsOf e = 1) (hct : Tryz.prog.cellsOf t = n)
    (h : DataW.trod (fun _ => ()) Tryz.prog w base sp held fuel t cs = some (.agg (zs.map fun z => .lit (.string z)), p)) : ∀ j, j < zs.length → cs[j]? = some (.string ⟨(zs.getD j []).toArray⟩) := by
  obtain ⟨xs, m, _, hx, hl, hxl, hf⟩ := DataW.trod_array ht h
  simp only [Prod.mk.injEq, DataW.agg.injEq] at hx
  have hlen : zs.length = n := by have := congrArg List.length hx.1; simp at this; omega
  intro j hj
  have hjn : j < n := by omega
  have h1 := hf j hjn
  rw [hce, Nat.mul_one] at h1
  have hjc : j < cs.length := by omega
  rw [List.drop_eq_getElem_cons hjc, List.take_succ_cons, List.take_zero, List.getElem?_eq_getElem (by omega)] at h1
  obtain ⟨s, e1, e2, _⟩ := DataW.trod_string he h1
  simp only [List.cons.injEq, and_true] at e1
  rw [List.getElem?_eq_getElem hjc, e1]
  have h3 : (xs.map (·.1))[j]? = some (.lit (.string s.data.toList)) := by
    rw [List.getElem?_map, List.getElem?_eq_getElem (by omega), e2]; rfl
  rw [← hx.1, List.getElem?_map, List.getElem?_eq_getElem hj] at h3
  simp only [Option.map_some, Option.some.injEq, DataW.lit.injEq, Lit.string.injEq] at h3
  rw [getD_lt _ _ hj, h3]

theorem keysG : Tryz.prog.globalNamed "catapult/lex.keys" = some 0 := by kernel_rfl
theorem keysT : (Tryz.prog.globals[0]?).map (·.type) = some 120 := by kernel_rfl
theorem powTy : (Tryz.prog.globals[2]?).map (·.type) = some 149 := by kernel_rfl
theorem cells20s : Tryz.prog.cellsOf 120 = 20 := by kernel_rfl
theorem cells20u : Tryz.prog.cellsOf 149 = 20 := by kernel_rfl
theorem cellsS : Tryz.prog.cellsOf 9 = 1 := by kernel_rfl
theorem cellsU : Tryz.prog.cellsOf 137 = 1 := by kernel_rfl

theorem keys_laid {w : World} {l : List (String × DataW Unit)} (h : laidMet Tryz.prog l w) (hm : ("catapult/lex.keys", Rows.laid_catapult_lex_keys) ∈ l) : KeysAt w := by
  obtain ⟨ps, hv, _⟩ := h
  obtain ⟨g, t, cs, fuel, p, h1, h2, h3, h4⟩ := laidVars_mem hv _ _ hm
  obtain rfl := Option.some.inj (keysG.symm.trans h1)
  obtain rfl := Option.some.inj (keysT.symm.trans h2)
  have h5 := strs_of_tab (zs := keyT.map (·.data.toList)) Tryz.underlying120 Tryz.underlying9 cellsS cells20s h4
  intro j hj
  rw [Nat.zero_add, World.var?_cell keysG h3 j]
  have h6 := h5 j (by rw [List.length_map]; exact hj)
  rw [getD_lt _ _ (by rw [List.length_map]; exact hj), List.getElem_map] at h6
  rw [getD_lt _ _ hj]
  simpa using h6
theorem pow_laid {w : World} {l : List (String × DataW Unit)} (h : laidMet Tryz.prog l w) (hm : ("internal/strconv.uint64pow10", Rows.laid_internal_strconv_uint64pow10) ∈ l) : PowAt w ∧ 2 < w.heap.size := by
  obtain ⟨ps, hv, _⟩ := h
  obtain ⟨g, t, cs, fuel, p, h1, h2, h3, h4⟩ := laidVars_mem hv _ _ hm
  obtain rfl := Option.some.inj (powG.symm.trans h1)
  obtain rfl := Option.some.inj (powTy.symm.trans h2)
  have h5 := Lib.cells_of_tab (k := .u64) (zs := Lib.pow10Tab) Tryz.underlying149 Tryz.underlying137 cellsU cells20u h4
  have h6 : PowAt w := by
    unfold PowAt Lib.TabIs
    rw [h3, ← h5]
  refine ⟨h6, ?_⟩
  have h7 := Lib.TabIs.cell h6 powG 0 (by decide)
  exact World.block_lt_of_cell? w _ h7

/-- the library's own bound holds some number -/
theorem maxl_shaped {w : World} (h : w.ShapedOpen Tryz.prog) : MaxLenAt w := Tryz.laysM219.s1_3 w h
theorem env_laid {w : World} {l : List (String × DataW Unit)} (h : laidMet Tryz.prog l w) (hs : w.ShapedOpen Tryz.prog) (h1 : ("internal/strconv.uint64pow10", Rows.laid_internal_strconv_uint64pow10) ∈ l) (h2 : ("catapult/lex.keys", Rows.laid_catapult_lex_keys) ∈ l) : TE w :=
  ⟨keys_laid h h2, maxl_shaped hs, (pow_laid h h1).1, (pow_laid h h1).2⟩

/-- the cells of a table, off what it reads as -/
def tabCells : DataW Unit → Array Value
  | .agg l => (l.map fun d => match d with
    | .lit (.int k n) => Value.int k n
    | .lit (.string s) => Value.string ⟨s.toArray⟩
    | _ => Value.bool false).toArray
  | _ => #[]

/-- a world for the witness: the settled one, the listed variables as they are laid -/
noncomputable def envWorld (os : Os) : World :=
  let w0 := World.holding Tryz.prog os ⟨#[], #[], []⟩
  let put (h : Array Obj) (g : Nat) (cs : Array Value) : Array Obj := h.modify g fun
    | .cells _ t frozen => .cells cs t frozen
    | o => o
  let h1 := put (put w0.heap 0 (tabCells Rows.laid_catapult_lex_keys)) 2 (tabCells Rows.laid_internal_strconv_uint64pow10)
  let h2 := put (put h1 3 (tabCells Rows.laid_math_bits_deBruijn32tab)) 4 (tabCells Rows.laid_math_bits_deBruijn64tab)
  { w0 with heap := h2 }

end Go.Proofs.YtmmjmppfmjejkaaGreatDoor
