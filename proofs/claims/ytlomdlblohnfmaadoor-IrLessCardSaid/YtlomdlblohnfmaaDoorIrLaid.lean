/- What the rows' lists give: the tables that three-address code leans on. -/
import Derived.Test.YtlomdlblohnfmaaDoorIrLine
import Derived.Test.YtlomdlblohnfmaaDoorRows
import Derived.Lib.LaidTab
import Derived.OpenShut
namespace Go.Proofs.YtlomdlblohnfmaaDoor
open Go.RowKit

theorem laidVars18_mem {w : World} : ∀ {l : List (String × DataW Unit)} {ps : List MemPlace}, DataW.LaidVars Tryd.prog w l ps → ∀ (n : String) (d : DataW Unit), (n, d) ∈ l →
    ∃ g t cs fuel p, Tryd.prog.globalNamed n = some g ∧ (Tryd.prog.globals[g]?).map (·.type) = some t ∧ w.var? Tryd.prog n = some cs ∧ DataW.trod (fun _ => ()) Tryd.prog w 0 (fun _ => true) false fuel t cs.toList = some (d, p)
  | [], _, _, _, _, hm => by cases hm
  | (n', d') :: r, ps, h, n, d, hm => by
    obtain ⟨g, t, cs, fuel, p, q, h1, h2, h3, h4, h5, _⟩ := h
    rcases List.mem_cons.1 hm with e | hm'
    · simp only [Prod.mk.injEq] at e
      obtain ⟨rfl, rfl⟩ := e
      exact ⟨g, t, cs, fuel, p, h1, h2, h3, h4⟩
    · exact laidVars18_mem h5 n d hm'

theorem strs18_of_tab {w : World} {base fuel n : Nat} {sp : Nat → Bool} {held : Bool} {t e : TypeId} {cs : List Value} {zs : List (List UInt8)} {p : List MemPlace}
    (ht : Tryd.prog.underlying t = some (.array n e)) (he : Tryd.prog.underlying e = some .string) (hce : Tryd.prog.cellsOf e = 1) (hct : Tryd.prog.cellsOf t = n)
    (h : DataW.trod (fun _ => ()) Tryd.prog w base sp held fuel t cs = some (.agg (zs.map fun z => .lit (.string z)), p)) : ∀ j, j < zs.length → cs[j]? = some (.string ⟨(zs.getD j []).toArray⟩) := by
  obtain ⟨xs, m, _, hx, hl, hxl, hf⟩ := DataW.trod_array ht h
  simp only [Prod.mk.injEq, DataW.agg.injEq] at hx
  have hlen : zs.length = n := by have := congrArg List.length hx.1; simp at this; omega
  intro j hj
  have hjn : j < n := by omega
  have h1 := hf j hjn
  rw [hce, Nat.mul_one] at h1
  have hjc : j < cs.length := by omega
  rw [List.drop_eq_getElem_cons hjc, List.take_succ_cons, List.take_zero, List.getElem?_eq_getElem (by omega)] at h1
  obtain ⟨s, e1, e2, _⟩ := DataW.trod_string he h1
  simp only [List.cons.injEq, and_true] at e1
  rw [List.getElem?_eq_getElem hjc, e1]
  have h3 : (xs.map (·.1))[j]? = some (.lit (.string s.data.toList)) := by
    rw [List.getElem?_map, List.getElem?_eq_getElem (by omega), e2]; rfl
  rw [← hx.1, List.getElem?_map, List.getElem?_eq_getElem hj] at h3
  simp only [Option.map_some, Option.some.injEq, DataW.lit.injEq, Lit.string.injEq] at h3
  rw [getD_lt _ _ hj, h3]

theorem keysG18 : Tryd.prog.globalNamed "catapult/lex.keys" = some 0 := by kernel_rfl
theorem keysT18 : (Tryd.prog.globals[0]?).map (·.type) = some 140 := by kernel_rfl
theorem powTy18 : (Tryd.prog.globals[1]?).map (·.type) = some 156 := by kernel_rfl
theorem cells20s18 : Tryd.prog.cellsOf 140 = 20 := by kernel_rfl
theorem cells20u18 : Tryd.prog.cellsOf 156 = 20 := by kernel_rfl
theorem cellsS18x : Tryd.prog.cellsOf 9 = 1 := by kernel_rfl
theorem cellsU18 : Tryd.prog.cellsOf 149 = 1 := by kernel_rfl

theorem keys18_laid {w : World} {l : List (String × DataW Unit)} (h : laidMet Tryd.prog l w) (hm : ("catapult/lex.keys", Rows.laid_catapult_lex_keys) ∈ l) : KeysAt w := by
  obtain ⟨ps, hv, _⟩ := h
  obtain ⟨g, t, cs, fuel, p, h1, h2, h3, h4⟩ := laidVars18_mem hv _ _ hm
  obtain rfl := Option.some.inj (keysG18.symm.trans h1)
  obtain rfl := Option.some.inj (keysT18.symm.trans h2)
  have h5 := strs18_of_tab (zs := keyT.map (·.data.toList)) Tryd.underlying140 Tryd.underlying9 cellsS18x cells20s18 h4
  intro j hj
  rw [Nat.zero_add, World.var?_cell keysG18 h3 j]
  have h6 := h5 j (by rw [List.length_map]; exact hj)
  rw [getD_lt _ _ (by rw [List.length_map]; exact hj), List.getElem_map] at h6
  rw [getD_lt _ _ hj]
  simpa using h6
theorem pow18_laid {w : World} {l : List (String × DataW Unit)} (h : laidMet Tryd.prog l w) (hm : ("internal/strconv.uint64pow10", Rows.laid_internal_strconv_uint64pow10) ∈ l) : PowAt w ∧ 1 < w.heap.size := by
  obtain ⟨ps, hv, _⟩ := h
  obtain ⟨g, t, cs, fuel, p, h1, h2, h3, h4⟩ := laidVars18_mem hv _ _ hm
  obtain rfl := Option.some.inj (powG.symm.trans h1)
  obtain rfl := Option.some.inj (powTy18.symm.trans h2)
  have h5 := Lib.cells_of_tab (k := .u64) (zs := Lib.pow10Tab) Tryd.underlying156 Tryd.underlying149 cellsU18 cells20u18 h4
  have h6 : PowAt w := by
    unfold PowAt Lib.TabIs
    rw [h3, ← h5]
  refine ⟨h6, ?_⟩
  have h7 := Lib.TabIs.cell h6 powG 0 (by decide)
  exact World.block_lt_of_cell? w _ h7
end Go.Proofs.YtlomdlblohnfmaaDoor

