/- The Else of each set is led to by that set alone. -/
import Derived.Test.YtlomdlblohnfmaaDoorIrExits
import Derived.Test.YtlomdlblohnfmaaDoorIrAny
import Derived.Laws.OwnMore
import Derived.Laws.MakeOwn
namespace Go.Proofs.YtlomdlblohnfmaaDoor
open Go.RowKit

/-- numbers, as cells -/
def cellsI (C : List Int) : List Value := C.map fun n => .int .i64 n
theorem cellsI_get {C : List Int} {i : Nat} {x : Int} (h : C[i]? = some x) : (cellsI C)[i]? = some (.int .i64 x) := by simp [cellsI, h]
theorem cellsI_set (C : List Int) (i : Nat) (x : Int) : (cellsI C).set i (.int .i64 x) = cellsI (C.set i x) := by simp [cellsI, List.map_set]
/-- a row of one's own that holds numbers, all of it -/
def RowI (w : World) (B g : Nat) (T : TypeId) (C : List Int) : Prop := w.ownsRow B T 1 (.slice (some ⟨g, 0, none⟩) C.length C.length) C.length (cellsI C)
theorem RowI.cell {w : World} {B g : Nat} {T : TypeId} {C : List Int} (h : RowI w B g T C) {i : Nat} {x : Int} (hi : C[i]? = some x) : w.cell? ⟨g, i, none⟩ = some (.int .i64 x) := by
  have hl := (List.getElem?_eq_some_iff.1 hi).1
  rw [World.ownsRow.cellAt h i (by omega)]
  exact cellsI_get hi
theorem RowI.free {w : World} {B g : Nat} {T : TypeId} {C : List Int} (h : RowI w B g T C) (i : Nat) : w.frozen? ⟨g, i, none⟩ = false := World.ownsRow.frozenAt h i
theorem RowI.lt {w : World} {B g : Nat} {T : TypeId} {C : List Int} (h : RowI w B g T C) : B ≤ g ∧ g < w.heap.size := World.ownsRow.lt h g rfl
theorem RowI.set {w : World} {B g : Nat} {T : TypeId} {C : List Int} (h : RowI w B g T C) (i : Nat) (x : Int) : RowI (w.setCell ⟨g, i, none⟩ (.int .i64 x)) B g T (C.set i x) := by
  have := (World.ownsRow.stored h i (.int .i64 x)).1
  rw [cellsI_set] at this
  unfold RowI
  rw [List.length_set]
  exact this
theorem RowI.below {w w' : World} {B g : Nat} {T : TypeId} {C : List Int} (h : RowI w B g T C) (hb : Below w.heap.size w w') : RowI w' B g T C :=
  World.ownsRow.kept (row := none) h ⟨hb.os, hb.tape, hb.output, hb.size, fun k hk _ => hb.block k hk⟩ (.inr (by simp [Value.ownBlock]))
theorem below_set {B : Nat} {w w' : World} (h : Below B w w') {g i : Nat} (hg : B ≤ g) (v : Value) : Below B w (w'.setCell ⟨g, i, none⟩ v) := h.setCell (by simpa using hg) v
/-- one more at a place -/
def bumpI (C : List Int) (n : Int) : List Int := C.set n.toNat (C.getD n.toNat 0 + 1)
def bumpAll (C : List Int) (l : List Int) : List Int := l.foldl bumpI C
theorem bumpI_len (C : List Int) (n : Int) : (bumpI C n).length = C.length := by simp [bumpI]
theorem bumpAll_len : ∀ (l C : List Int), (bumpAll C l).length = C.length
  | [], C => rfl
  | n :: l, C => by show (bumpAll (bumpI C n) l).length = _; rw [bumpAll_len l, bumpI_len]
theorem bumpAll_append (C l m : List Int) : bumpAll C (l ++ m) = bumpAll (bumpAll C l) m := by simp [bumpAll]
theorem bump_at {C : List Int} {n : Int} (hn : 0 ≤ n) (hl : n < C.length) (i : Nat) : (bumpI C n).getD i 0 = C.getD i 0 + if n = (i : Int) then 1 else 0 := by
  unfold bumpI
  simp only [List.getD_eq_getElem?_getD, List.getElem?_set]
  by_cases e : n.toNat = i
  · rw [if_pos e, if_pos (by omega), if_pos (by omega)]
    simp [e]
  · rw [if_neg e, if_neg (by omega)]
    simp
theorem bumpAll_at : ∀ (l : List Int) {C : List Int}, (∀ n ∈ l, 0 ≤ n ∧ n < C.length) → ∀ i : Nat, (bumpAll C l).getD i 0 = C.getD i 0 + (l.countP (fun y => decide (y = (i : Int))) : Int)
  | [], C, _, i => by simp [bumpAll]
  | n :: l, C, h, i => by
    obtain ⟨h1, h2⟩ := h n (by simp)
    have ih := bumpAll_at l (C := bumpI C n) (fun m hm => by rw [bumpI_len]; exact h m (by simp [hm])) i
    show (bumpAll (bumpI C n) l).getD i 0 = _
    rw [ih, bump_at h1 h2, List.countP_cons]
    by_cases e : n = (i : Int)
    · simp [e]; omega
    · simp [e]
/-- how often the exits of some blocks lead to each block -/
def ledAll (n : Nat) (bs : List IrB) : List Int := bumpAll (List.replicate n 0) (bs.flatMap fun b => (exitsI b.exit).2)
theorem ledAll_len (n : Nat) (bs : List IrB) : (ledAll n bs).length = n := by rw [ledAll, bumpAll_len]; simp
theorem ledAll_at {n : Nat} {bs : List IrB} (h : ∀ b ∈ bs, ∀ y ∈ (exitsI b.exit).2, 1 ≤ y ∧ y < (n : Int)) (i : Nat) : (ledAll n bs).getD i 0 = (ledI bs (i : Int) : Int) := by
  unfold ledAll ledI
  rw [bumpAll_at]
  · have : (List.replicate n (0 : Int)).getD i 0 = 0 := by
      rw [List.getD_eq_getElem?_getD, List.getElem?_replicate]
      split <;> rfl
    rw [this]; simp
  · intro m hm
    rw [List.mem_flatMap] at hm
    obtain ⟨b, hb, hm⟩ := hm
    have := h b hb m hm
    simp
    omega
/-- the bad blocks: of a set whose Else is led to by others, too -/
def ledBad (n : Nat) (bs : List IrB) (b : IrB) : Bool := decide (b.exit.kind = 4) && decide (1 < (ledAll n bs).getD b.exit.els.toNat 0)
theorem apartI_led {n : Nat} {bs : List IrB} (h : ∀ b ∈ bs, ∀ y ∈ (exitsI b.exit).2, 1 ≤ y ∧ y < (n : Int)) : (!(bs.any (ledBad n bs))) = apartI bs := by
  have key : ∀ b ∈ bs, ledBad n bs b = !(decide (b.exit.kind ≠ 4) || decide (ledI bs b.exit.els ≤ 1)) := by
    intro b hb
    unfold ledBad
    by_cases hk : b.exit.kind = 4
    · have he : b.exit.els ∈ (exitsI b.exit).2 := by
        unfold exitsI
        rw [if_neg (by omega), if_pos (.inr hk)]
        simp
      have h1 := h b hb _ he
      have h2 := ledAll_at h b.exit.els.toNat
      rw [Int.toNat_of_nonneg (by omega)] at h2
      rw [h2]
      by_cases h3 : ledI bs b.exit.els ≤ 1
      · have : ¬ (1 : Int) < (ledI bs b.exit.els : Int) := by omega
        simp [hk, h3, this]
      · have : (1 : Int) < (ledI bs b.exit.els : Int) := by omega
        simp [hk, h3, this]
    · simp [hk]
  unfold apartI
  rw [Bool.eq_iff_iff, Bool.not_eq_true', List.any_eq_false, List.all_eq_true]
  constructor
  · intro H b hb
    have := H b hb
    rw [key b hb] at this
    simpa only [Bool.not_eq_true', Bool.not_eq_false] using this
  · intro H b hb
    rw [key b hb, H b hb]
    simp
theorem made_one (v : Value) (h : v.cells = #[v]) (n : Nat) : madeCells v.cells n = (List.replicate n v).toArray := by
  rw [h]
  unfold madeCells
  apply Array.ext
  · simp
  · intro i h1 h2
    simp [Nat.mod_one]
theorem make_ints (n : Nat) (h : n ≤ 4096) (w : World) : (Instr.makeSlice 43 (.int .i64 (n : Int)) (.int .i64 (n : Int))).run Tryd.prog w = .ok (.slice (some ⟨w.heap.size, 0, none⟩) n n) (w.alloc (.cells (cellsI (List.replicate n 0)).toArray 3)) := by
  obtain ⟨i0, hi, hz0, hz1, hz2⟩ := info_parts (show (Tryd.prog.info? 3).map (fun i => (i.zero, i.size, i.bytes)) = some (some (.int .i64 0), 1, 8) by kernel_rfl)
  have := run_make (P := Tryd.prog) w 43 3 i0 (.int .i64 0) Tryd.underlying43 hi hz0 .i64 .i64 (n : Int) (n : Int) (by omega) (Int.le_refl _) (by rw [hz2]; omega) (by omega)
  rw [this, hz1, made_one _ rfl]
  simp [cellsI]
end Go.Proofs.YtlomdlblohnfmaaDoor

