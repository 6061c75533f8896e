/- Maps from texts to numbers, by what is looked up in them; one more name that is known. -/
import Derived.Test.YtmmjmppfmjejkaaGreatDoorCheckNil
namespace Go.Proofs.YtmmjmppfmjejkaaGreatDoor
open Go.RowKit Go.Maps

/-- block b is a map of at most n names that gives f -/
def MapF (w : World) (b n : Nat) (f : List UInt8 → Int × Bool) : Prop := ∃ D : DataW Unit, w.ownsMap Tryz.prog 9 (plainElem Tryz.prog 3) b n D ∧
  ∀ s : List UInt8, has D (.string s) = (f s).2 ∧ D.atKey (.string s) (.lit (.int .i64 0)) = .lit (.int .i64 (f s).1)
theorem NamesAt.def {w : World} {b : Nat} {K : List Kn} : NamesAt w b K ↔ MapF w b K.length (lookV K) := Iff.rfl
theorem MapF.same {w : World} {b n : Nat} {f g : List UInt8 → Int × Bool} (h : MapF w b n f) (e : ∀ s, f s = g s) : MapF w b n g := by
  obtain ⟨D, hD, hv⟩ := h
  exact ⟨D, hD, fun s => by rw [← e s]; exact hv s⟩
theorem MapF.look {w : World} {b n : Nat} {f : List UInt8 → Int × Bool} (h : MapF w b n f) {s : ByteArray} (hs : s.size ≤ maxLen) :
    (Instr.lookup 79 (.map (some b)) (.string s) false).run Tryz.prog w = .ok (.int .i64 (f s.data.toList).1) w := by
  obtain ⟨D, hD, hv⟩ := h
  have hkey := Go.WideMaps.keyOf_string_mk (P := Tryz.prog) Tryz.underlying9 hs
  obtain ⟨c, hrun, hat, _⟩ := hD.lookup_int keyedS Tryz.underlying79 Tryz.underlying3 (zeroI w) hkey
  obtain ⟨_, h2⟩ := hv s.data.toList
  rw [h2] at hat
  simp only [DataW.lit.injEq, Lit.int.injEq, true_and] at hat
  rw [hat]; exact hrun
theorem MapF.other {w : World} {b n : Nat} {f : List UInt8 → Int × Bool} (h : MapF w b n f) (a : Addr) (ha : b ≠ a.block) (v : Value) : MapF (w.setCell a v) b n f := by
  obtain ⟨D, hD, hv⟩ := h
  exact ⟨D, hD.setCell ha v, hv⟩
theorem MapF.below {w w' : World} {b n : Nat} {f : List UInt8 → Int × Bool} (h : MapF w b n f) (hb : Below w.heap.size w w') : MapF w' b n f := by
  obtain ⟨D, hD, hv⟩ := h
  exact ⟨D, hD.kept (row := none) ⟨hb.os, hb.tape, hb.output, hb.size, fun k hk _ => hb.block k hk⟩ (by simp), hv⟩
theorem mapF_nil {w : World} : MapF (w.alloc (.map #[] 0)) w.heap.size 0 (fun _ => (0, false)) :=
  ⟨.map [], World.ownsMap_made _ _ _ _, fun _ => ⟨rfl, rfl⟩⟩
theorem MapF.store {w : World} {b n : Nat} {f : List UInt8 → Int × Bool} (h : MapF w b n f) (hn : n < maxLen) {s : ByteArray} (hs : s.size ≤ maxLen) {v : Int} (hv : (Lit.int .i64 v).wf = true) :
    ∃ w', (Instr.mapUpdate 79 (.map (some b)) (.string s) (.int .i64 v)).run Tryz.prog w = .ok () w' ∧
      MapF w' b (n + 1) (fun t => if t = s.data.toList then (v, true) else f t) ∧ w.mapTurned w' b := by
  obtain ⟨D, hD, hf⟩ := h
  have hkey := Go.WideMaps.keyOf_string_mk (P := Tryz.prog) Tryz.underlying9 hs
  obtain ⟨w', hrun, h1, h2⟩ := hD.store keyedS Tryz.underlying79 hn hkey (plainElem_int (H := Unit) Tryz.underlying3 hv)
  refine ⟨w', hrun, ⟨_, h1, fun t => ?_⟩, h2⟩
  by_cases e : t = s.data.toList
  · subst e
    simp only [if_true]
    exact ⟨has_put_same hD.isMap (by simp [WideAt.IsKeyLit]) _, atKey_put_same hD.isMap (by simp [WideAt.IsKeyLit]) _ _⟩
  · simp only [if_neg e]
    have e' : Lit.string t ≠ Lit.string s.data.toList := fun h => e (Lit.string.inj h)
    rw [has_put_other e', atKey_put_other e']
    exact hf t
/-- a block's entries turned: all else stays -/
theorem below_turned {w0 w w' : World} {b B : Nat} (h : Below B w0 w) (hB : B ≤ w0.heap.size) (hb : B ≤ b) (ht : w.mapTurned w' b) : Below B w0 w' := by
  have hg := ht.grown
  exact ⟨hg.os.trans h.os, hg.tape.trans h.tape, hg.output.trans h.output, Nat.le_trans h.size hg.size, fun k hk => (hg.block k (Nat.lt_of_lt_of_le hk (Nat.le_trans hB h.size)) (by simp; omega)).trans (h.block k hk)⟩

end Go.Proofs.YtmmjmppfmjejkaaGreatDoor
