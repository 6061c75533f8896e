/- Scalars, gathered in a row of one's own: what is said of it. -/
import Derived.Test.YtmmjmppfmjejkaaGreatDoorPieces
import Derived.Test.YtmmjmppfmjejkaaGreatDoorOwnM
namespace Go.Proofs.YtmmjmppfmjejkaaGreatDoor
open Go.RowKit

def pcPair (q : Pc) : Value × Value := (.int .i64 (q.1 : Int), .string (tyB q.2))
def pcCells (out : List Pc) : List Value := flat2 (out.map pcPair)
def PcRow (w : World) (base : Nat) (v : Value) (out : List Pc) : Prop := w.ownsRow base 46 2 v out.length (pcCells out)
theorem pcCells_snoc (out : List Pc) (q : Pc) : pcCells (out ++ [q]) = pcCells out ++ [.int .i64 (q.1 : Int), .string (tyB q.2)] := by
  unfold pcCells
  rw [List.map_append, flat2_append]; rfl
theorem pcRow_nil (w : World) (base : Nat) : PcRow w base (.slice none 0 0) [] := World.ownsRow_nil _ _ _ _
theorem PcRow.form {w : World} {base : Nat} {v : Value} {out : List Pc} (h : PcRow w base v out) : ∃ a cap, v = .slice a out.length cap := by
  rcases h.2 with ⟨rfl, h0⟩ | ⟨g, cap, _, rfl, _⟩
  · exact ⟨none, 0, by rw [h0]⟩
  · exact ⟨_, cap, rfl⟩
/-- from a world with a row to a later one with the row grown -/
structure Grew (w : World) (v : Value) (w' : World) (v' : Value) : Prop where
  grown : w.grownBy w' v.ownBlock
  blk : v'.ownBlock = none ∨ v'.ownBlock = v.ownBlock ∨ ∃ g, v'.ownBlock = some g ∧ w.heap.size ≤ g
theorem grn_refl (w : World) (r : Option Nat) : w.grownBy w r := ⟨rfl, rfl, rfl, Nat.le_refl _, fun _ _ _ => rfl⟩
theorem grn_below {w w' : World} {r : Option Nat} (hb : Below w.heap.size w w') : w.grownBy w' r := ⟨hb.os, hb.tape, hb.output, hb.size, fun k hk _ => hb.block k hk⟩
theorem Grew.refl (w : World) (v : Value) : Grew w v w v := ⟨grn_refl _ _, .inr (.inl rfl)⟩
theorem Grew.below {w w' : World} {v : Value} (hb : Below w.heap.size w w') : Grew w v w' v := ⟨grn_below hb, .inr (.inl rfl)⟩
theorem Grew.trans {w w1 w2 : World} {v v1 v2 : Value} (h1 : Grew w v w1 v1) (h2 : Grew w1 v1 w2 v2) : Grew w v w2 v2 := by
  refine ⟨⟨h2.grown.os.trans h1.grown.os, h2.grown.tape.trans h1.grown.tape, h2.grown.output.trans h1.grown.output, Nat.le_trans h1.grown.size h2.grown.size, fun k hk hne => ?_⟩, ?_⟩
  · rw [h2.grown.block k (Nat.lt_of_lt_of_le hk h1.grown.size) (fun e => ?_), h1.grown.block k hk hne]
    rcases h1.blk with hb | hb | ⟨g, hg, hl⟩
    · rw [hb] at e; cases e
    · exact hne (e.trans hb)
    · rw [hg] at e
      have := Option.some.inj e
      omega
  · rcases h2.blk with hb | hb | ⟨g, hg, hl⟩
    · exact .inl hb
    · rw [hb]; exact h1.blk
    · exact .inr (.inr ⟨g, hg, Nat.le_trans h1.grown.size hl⟩)
theorem Grew.under {w0 w w' : World} {v v' : Value} {out : List Pc} (h : Grew w v w' v') (hb : Below w0.heap.size w0 w) (ho : PcRow w w0.heap.size v out) : Below w0.heap.size w0 w' :=
  hb.grown h.grown hb.size (fun k hk => (ho.lt k hk).1)
/-- a block of a caller's own stays -/
theorem Grew.far {w w' : World} {v v' : Value} (h : Grew w v w' v') {k : Nat} (hk : k < w.heap.size) (hne : v.ownBlock ≠ some k) : w'.heap[k]? = w.heap[k]? :=
  h.grown.block k hk (fun e => hne e.symm)
/-- how the gathering ends -/
def ScalQ (base : Nat) (out pcs : List Pc) (v : Value) (w : World) (e : Ending) (w' : World) : Prop :=
  ∃ v' ok, e = .returned (.tuple #[v', .bool ok]) ∧ Grew w v w' v' ∧ (∃ a n c, v' = .slice a n c) ∧
    ((out.length + pcs.length ≤ 4096 ∧ ok = true ∧ PcRow w' base v' (out ++ pcs)) ∨ (4096 < out.length + pcs.length ∧ ok = false))
theorem scalQ_yes {base : Nat} {out pcs : List Pc} {v v' : Value} {w w' : World} (hl : out.length + pcs.length ≤ 4096) (hg : Grew w v w' v') (hr : PcRow w' base v' (out ++ pcs)) : ScalQ base out pcs v w (.returned (.tuple #[v', .bool true])) w' := by
  obtain ⟨a, c, e⟩ := hr.form
  exact ⟨v', true, rfl, hg, ⟨a, _, c, e⟩, .inl ⟨hl, rfl, hr⟩⟩
theorem scalQ_no {base : Nat} {out pcs : List Pc} {v : Value} {w w' : World} {a : Option Addr} {n c : Nat} (hl : 4096 < out.length + pcs.length) (hg : Grew w v w' (.slice a n c)) : ScalQ base out pcs v w (.returned (.tuple #[.slice a n c, .bool false])) w' :=
  ⟨_, false, rfl, hg, ⟨a, n, c, rfl⟩, .inr ⟨hl, rfl⟩⟩
theorem infoPc : (Tryz.prog.info? 46).map (fun i => (i.zero, i.size, i.bytes)) = some (some (.agg #[.int .i64 0, .string ⟨#[]⟩]), 2, 24) := by kernel_rfl
/-- the rounds over an array: pieces of the first so many -/
theorem range_snoc {α : Type} (f : Nat → List α) (j : Nat) : (List.range (j + 1)).flatMap f = (List.range j).flatMap f ++ f j := by
  rw [List.range_succ, List.flatMap_append]; simp
theorem range_le {α : Type} (f : Nat → List α) {j n : Nat} (h : j ≤ n) : ((List.range j).flatMap f).length ≤ ((List.range n).flatMap f).length := by
  obtain ⟨d, rfl⟩ := Nat.exists_eq_add_of_le h
  induction d with
  | zero => exact Nat.le_refl _
  | succ d ih =>
    have := ih (by omega)
    rw [show j + (d + 1) = (j + d) + 1 by omega, range_snoc, List.length_append]
    omega
theorem range_nil {α : Type} {f : Nat → List α} (h : ∀ j, f j = []) (n : Nat) : (List.range n).flatMap f = [] := by
  rw [List.flatMap_eq_nil_iff]; exact fun x _ => h x
end Go.Proofs.YtmmjmppfmjejkaaGreatDoor
