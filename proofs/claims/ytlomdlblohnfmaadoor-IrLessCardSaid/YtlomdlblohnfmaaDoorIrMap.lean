/- Maps from names to places, by what is looked up in them. -/
import Derived.Test.YtlomdlblohnfmaaDoorIrMem
import Derived.Maps.OwnSet
import Derived.Maps.OwnOps
namespace Go.Proofs.YtlomdlblohnfmaaDoor
open Go.RowKit Go.Maps

theorem mapKeyed : Keyed Tryd.prog 9 := string_keyed Tryd.underlying9
theorem mapZero (w : World) : (zeroValue 3).run Tryd.prog w = .ok (.int .i64 0) w := by kernel_rfl
/-- block b is a map of at most n names that gives f -/
def MapI (w : World) (b n : Nat) (f : ByteArray → Int × Bool) : Prop := ∃ D : DataW Unit, w.ownsMap Tryd.prog 9 (plainElem Tryd.prog 3) b n D ∧
  ∀ s : ByteArray, has D (.string s.data.toList) = (f s).2 ∧ D.atKey (.string s.data.toList) (.lit (.int .i64 0)) = .lit (.int .i64 (f s).1)
theorem MapI.same {w : World} {b n : Nat} {f g : ByteArray → Int × Bool} (h : MapI w b n f) (e : ∀ s, f s = g s) : MapI w b n g := by
  obtain ⟨D, hD, hv⟩ := h
  exact ⟨D, hD, fun s => by rw [← e s]; exact hv s⟩
theorem MapI.look {w : World} {b n : Nat} {f : ByteArray → Int × Bool} (h : MapI w b n f) {s : ByteArray} (hs : s.size ≤ maxLen) :
    (Instr.lookup 68 (.map (some b)) (.string s) false).run Tryd.prog w = .ok (.int .i64 (f s).1) w := by
  obtain ⟨D, hD, hv⟩ := h
  have hkey := Go.WideMaps.keyOf_string_mk (P := Tryd.prog) Tryd.underlying9 hs
  obtain ⟨c, hrun, hat, _⟩ := hD.lookup_int mapKeyed Tryd.underlying68 Tryd.underlying3 (mapZero w) hkey
  obtain ⟨_, h2⟩ := hv s
  rw [h2] at hat
  simp only [DataW.lit.injEq, Lit.int.injEq, true_and] at hat
  rw [hat]; exact hrun
theorem MapI.look2 {w : World} {b n : Nat} {f : ByteArray → Int × Bool} (h : MapI w b n f) {s : ByteArray} (hs : s.size ≤ maxLen) :
    (Instr.lookup 68 (.map (some b)) (.string s) true).run Tryd.prog w = .ok (.tuple #[.int .i64 (f s).1, .bool (f s).2]) w := by
  obtain ⟨D, hD, hv⟩ := h
  have hkey := Go.WideMaps.keyOf_string_mk (P := Tryd.prog) Tryd.underlying9 hs
  obtain ⟨v, ps, hrun, hR⟩ := hD.look_ok mapKeyed Tryd.underlying68 (mapZero w) (plainElem_int (H := Unit) Tryd.underlying3 (by decide)) hkey
  obtain ⟨h1, h2⟩ := hv s
  rw [h1] at hrun
  rw [h2] at hR
  obtain ⟨c, rfl, hc, _⟩ := plainElem_int_inv Tryd.underlying3 hR
  have := congrArg Prod.fst hc
  simp only [DataW.lit.injEq, Lit.int.injEq, true_and] at this
  rw [this]; exact hrun
theorem MapI.below {w w' : World} {b n : Nat} {f : ByteArray → Int × Bool} (h : MapI w b n f) (hb : Below w.heap.size w w') : MapI w' b n f := by
  obtain ⟨D, hD, hv⟩ := h
  exact ⟨D, hD.kept (row := none) ⟨hb.os, hb.tape, hb.output, hb.size, fun k hk _ => hb.block k hk⟩ (by simp), hv⟩
theorem MapI.other {w : World} {b n : Nat} {f : ByteArray → Int × Bool} (h : MapI w b n f) (a : Addr) (ha : b ≠ a.block) (v : Value) : MapI (w.setCell a v) b n f := by
  obtain ⟨D, hD, hv⟩ := h
  exact ⟨D, hD.setCell ha v, hv⟩
theorem mapI_nil {w : World} : MapI (w.alloc (.map #[] 0)) w.heap.size 0 (fun _ => (0, false)) :=
  ⟨.map [], World.ownsMap_made _ _ _ _, fun _ => ⟨rfl, rfl⟩⟩
theorem MapI.store {w : World} {b n : Nat} {f : ByteArray → Int × Bool} (h : MapI w b n f) (hn : n < maxLen) {s : ByteArray} (hs : s.size ≤ maxLen) {v : Int} (hv : (Lit.int .i64 v).wf = true) :
    ∃ w', (Instr.mapUpdate 68 (.map (some b)) (.string s) (.int .i64 v)).run Tryd.prog w = .ok () w' ∧
      MapI w' b (n + 1) (fun t => if t = s then (v, true) else f t) ∧ w.mapTurned w' b := by
  obtain ⟨D, hD, hf⟩ := h
  have hkey := Go.WideMaps.keyOf_string_mk (P := Tryd.prog) Tryd.underlying9 hs
  obtain ⟨w', hrun, h1, h2⟩ := hD.store mapKeyed Tryd.underlying68 hn hkey (plainElem_int (H := Unit) Tryd.underlying3 hv)
  refine ⟨w', hrun, ⟨_, h1, fun t => ?_⟩, h2⟩
  by_cases e : t = s
  · subst e
    simp only [if_true]
    exact ⟨has_put_same hD.isMap (by simp [WideAt.IsKeyLit]) _, atKey_put_same hD.isMap (by simp [WideAt.IsKeyLit]) _ _⟩
  · simp only [if_neg e]
    have e' : Lit.string t.data.toList ≠ Lit.string s.data.toList := fun h => e (by
      have h1 := Lit.string.inj h
      cases t; cases s
      simpa using h1)
    rw [has_put_other e', atKey_put_other e']
    exact hf t
/-- names to places: the first of each name -/
def firstI (L : List ByteArray) (s : ByteArray) : Int × Bool := match L.findIdx? (fun t => decide (t = s)) with
  | some i => ((i : Nat), true)
  | none => (0, false)
/-- what is laid from the last one on, down to the k-th -/
def lateI (L : List ByteArray) (k : Nat) (s : ByteArray) : Int × Bool := match (L.drop k).findIdx? (fun t => decide (t = s)) with
  | some i => (((k + i : Nat) : Int), true)
  | none => (0, false)
theorem lateI_all (L : List ByteArray) (s : ByteArray) : lateI L 0 s = firstI L s := by
  unfold lateI firstI
  rw [List.drop_zero]
  cases L.findIdx? (fun t => decide (t = s)) with
  | none => rfl
  | some i => simp
theorem lateI_none (L : List ByteArray) (s : ByteArray) : lateI L L.length s = (0, false) := by
  unfold lateI
  rw [List.drop_length]
  rfl
theorem lateI_next {L : List ByteArray} {k : Nat} (h : k < L.length) (s : ByteArray) : lateI L k s = if s = L[k] then ((k : Int), true) else lateI L (k + 1) s := by
  unfold lateI
  rw [List.drop_eq_getElem_cons h, List.findIdx?_cons]
  by_cases e : L[k] = s
  · rw [if_pos (by simpa using e), if_pos e.symm]
    simp
  · rw [if_neg (by simpa using e), if_neg (fun h => e h.symm)]
    cases (L.drop (k + 1)).findIdx? (fun t => decide (t = s)) with
    | none => rfl
    | some i => simp; omega
end Go.Proofs.YtlomdlblohnfmaaDoor

