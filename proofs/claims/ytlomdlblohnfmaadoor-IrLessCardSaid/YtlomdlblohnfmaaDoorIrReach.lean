/- The blocks that can be come to: what holds ahead of each round. -/
import Derived.Test.YtlomdlblohnfmaaDoorIrFunc2
import Derived.Test.YtlomdlblohnfmaaDoorReachP
import Derived.WalkSmall
import Derived.Deep.AppendLies
namespace Go.Proofs.YtlomdlblohnfmaaDoor
open Go.RowKit

def cellsB (S : List Bool) : List Value := S.map Value.bool
def cellsT (T : List Nat) : List Value := T.map fun (t : Nat) => (.int .i64 (t : Int) : Value)
theorem cellsT_len (T : List Nat) : (cellsT T).length = T.length := by simp [cellsT]
theorem cellsB_set (S : List Bool) (i : Nat) (x : Bool) : (cellsB S).set i (.bool x) = cellsB (S.set i x) := by simp [cellsB, List.map_set]
/-- what holds ahead of a round: base B, the start's world w1 -/
structure ReachInv (w1 : World) (bs : List IrB) (wy : World) (gs : Nat) (S : List Bool) (gt cap : Nat) (T : List Nat) : Prop where
  seen : wy.ownsRow w1.heap.size 4 1 (.slice (some ⟨gs, 0, none⟩) bs.length bs.length) bs.length (cellsB S)
  ok : SeenOk bs S
  todo : wy.ownsRow w1.heap.size 3 1 (.slice (some ⟨gt, 0, none⟩) T.length cap) T.length (cellsT T)
  in_ : ∀ t ∈ T, t < bs.length
  ne : gt ≠ gs
  many : T.length + unseen S ≤ bs.length
  below : Below w1.heap.size w1 wy
theorem ReachInv.belowed {w1 wy w2 : World} {bs : List IrB} {gs gt cap : Nat} {S : List Bool} {T : List Nat} (h : ReachInv w1 bs wy gs S gt cap T) (hb : Below wy.heap.size wy w2) : ReachInv w1 bs w2 gs S gt cap T :=
  ⟨h.seen.belowed hb, h.ok, h.todo.belowed hb, h.in_, h.ne, h.many, h.below.trans (hb.mono h.below.size)⟩
theorem ReachInv.capped {w1 wy : World} {bs : List IrB} {gs gt cap : Nat} {S : List Bool} {T : List Nat} (h : ReachInv w1 bs wy gs S gt cap T) : T.length ≤ cap ∧ w1.heap.size ≤ gt ∧ gt < wy.heap.size ∧ w1.heap.size ≤ gs ∧ gs < wy.heap.size := by
  obtain ⟨h1, h2⟩ := h.todo.lt gt rfl
  obtain ⟨h3, h4⟩ := h.seen.lt gs rfl
  refine ⟨?_, h1, h2, h3, h4⟩
  rcases h.todo.2 with ⟨e, _⟩ | ⟨g, c, cur, e, _, _, hc, _⟩
  · cases e
  · simp only [Value.slice.injEq] at e
    rw [e.2.2]
    exact hc
theorem ReachInv.last {w1 wy : World} {bs : List IrB} {gs gt cap : Nat} {S : List Bool} {T : List Nat} {b : Nat} (h : ReachInv w1 bs wy gs S gt cap (T ++ [b])) : wy.cell? ⟨gt, T.length, none⟩ = some (.int .i64 (b : Int)) := by
  rw [World.ownsRow.cellAt h.todo T.length (by simp)]
  simp [cellsT]
theorem ReachInv.mark {w1 wy : World} {bs : List IrB} {gs gt cap : Nat} {S : List Bool} {T : List Nat} (h : ReachInv w1 bs wy gs S gt cap T) {j : Nat} {x : Bool} (hj : S[j]? = some x) : wy.cell? ⟨gs, j, none⟩ = some (.bool x) ∧ wy.frozen? ⟨gs, j, none⟩ = false := by
  have hl := (List.getElem?_eq_some_iff.1 hj).1
  have := h.ok.len
  refine ⟨?_, World.ownsRow.frozenAt h.seen j⟩
  rw [World.ownsRow.cellAt h.seen j (by omega)]
  simp [cellsB, hj]
theorem ReachInv.pop {w1 wy : World} {bs : List IrB} {gs gt cap : Nat} {S : List Bool} {T : List Nat} {b : Nat} (h : ReachInv w1 bs wy gs S gt cap (T ++ [b])) : ReachInv w1 bs wy gs S gt cap T := by
  refine ⟨h.seen, h.ok, ?_, fun t ht => h.in_ t (by simp [ht]), h.ne, by have := h.many; simp at this; omega, h.below⟩
  have h1 := h.todo
  rw [List.length_append, List.length_singleton] at h1
  have e : cellsT (T ++ [b]) = cellsT T ++ [.int .i64 (b : Int)] := by simp [cellsT]
  rw [e] at h1
  exact ownsRow_pop (by rw [cellsT_len, Nat.mul_one]) h1
/-- a block is marked -/
theorem ReachInv.set {w1 wy : World} {bs : List IrB} {gs gt cap : Nat} {S : List Bool} {T : List Nat} (h : ReachInv w1 bs wy gs S gt cap T) {k : Nat} (hk : S[k]? = some false) (hl : ∃ b ∈ bs, (k : Int) ∈ (exitsI b.exit).2) :
    ReachInv w1 bs (wy.setCell ⟨gs, k, none⟩ (.bool true)) gs (S.set k true) gt cap T ∧ T.length + 1 + unseen (S.set k true) = T.length + unseen S := by
  have hu := unseen_set hk
  refine ⟨⟨?_, h.ok.mark hl, ?_, h.in_, h.ne, by have := h.many; omega, below_set h.below (h.capped).2.2.2.1 _⟩, by omega⟩
  · have := (World.ownsRow.stored h.seen k (.bool true)).1
    rw [cellsB_set] at this
    exact this
  · exact ownsRow_setCell_other h.todo (by simp [Value.ownBlock]; exact h.ne) _
/-- and put behind -/
theorem ReachInv.push {w1 wy w4 w5 : World} {bs : List IrB} {gs gt cap : Nat} {S : List Bool} {T : List Nat} (h : ReachInv w1 bs wy gs S gt cap T) {k g5 c5 : Nat} (hb : Below wy.heap.size wy w4) (hk : k < bs.length) (hm : T.length + 1 + unseen S ≤ bs.length)
    (hown : w5.ownsRow w1.heap.size 3 1 (.slice (some ⟨g5, 0, none⟩) (T.length + 1) c5) (T.length + 1) (cellsT T ++ [.int .i64 (k : Int)])) (hg : w4.grownBy w5 (some gt)) (hat : (Value.slice (some ⟨gt, 0, none⟩) T.length cap).ownBlock = some g5 ∨ g5 = w4.heap.size) :
    ReachInv w1 bs w5 gs S g5 c5 (T ++ [k]) := by
  have h4 := h.belowed hb
  obtain ⟨_, q1, q2, q3, q4⟩ := h4.capped
  refine ⟨World.ownsRow.kept h4.seen hg (.inr (by simp [Value.ownBlock]; exact Ne.symm h.ne)), h.ok, ?_, fun t ht => ?_, ?_, by simp; omega, h4.below.grown hg h4.below.size (fun x hx => by simp at hx; omega)⟩
  · have e : cellsT (T ++ [k]) = cellsT T ++ [.int .i64 (k : Int)] := by simp [cellsT]
    rw [e, List.length_append, List.length_singleton]
    exact hown
  · rcases List.mem_append.1 ht with h' | h'
    · exact h.in_ t h'
    · rw [List.mem_singleton.1 h']; exact hk
  · rcases hat with h' | h'
    · have : gt = g5 := by simpa [Value.ownBlock] using h'
      rw [← this]; exact h.ne
    · omega
/-- the row of where an exit leads to, beside -/
def LedRow (wy : World) (a : Option Addr) (l : List Int) (gs gt : Nat) : Prop := l ≠ [] → ∃ b off, a = some ⟨b, off, none⟩ ∧ b < wy.heap.size ∧ gs ≠ b ∧ gt ≠ b ∧ ∀ (i : Nat) x, l[i]? = some x → wy.cell? ⟨b, off + i, none⟩ = some (.int .i64 x)
theorem LedRow.push {wy w4 w5 : World} {a : Option Addr} {l : List Int} {gs gt g5 : Nat} (h : LedRow wy a l gs gt) {k : Nat} {u : Value} (hb : Below (wy.setCell ⟨gs, k, none⟩ u).heap.size (wy.setCell ⟨gs, k, none⟩ u) w4) (hg : w4.grownBy w5 (some gt)) (hat : (some gt = some g5) ∨ g5 = w4.heap.size) : LedRow w5 a l gs g5 := fun hn => by
  obtain ⟨b, off, rfl, hlt, h1, h2, hc⟩ := h hn
  have hs : (wy.setCell ⟨gs, k, none⟩ u).heap.size = wy.heap.size := by simp
  have hbs := hb.size
  rw [hs] at hbs
  refine ⟨b, off, rfl, Nat.lt_of_lt_of_le hlt (Nat.le_trans hbs hg.size), h1, ?_, fun i x hx => ?_⟩
  · rcases hat with e | e
    · rw [← Option.some.inj e]; exact h2
    · omega
  · refine grown_keeps hg (by omega) (Ne.symm h2) ?_
    rw [hb.cell (by rw [hs]; exact hlt)]
    have := hc i x hx
    unfold World.cell? at this ⊢
    simp only at this ⊢
    rw [Below.heap_setCell _ _ _ _ (by simpa using Ne.symm h1)]
    exact this
end Go.Proofs.YtlomdlblohnfmaaDoor

