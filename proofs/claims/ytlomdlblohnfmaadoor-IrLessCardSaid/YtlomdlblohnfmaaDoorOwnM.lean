/- Rows of one's own, as lists of elements of k cells each (turned from the set tree's text). · Functions in memory of one's own: which blocks they lie in; rows of operations and of blocks that grow. · Copies of numbers, texts, bytes; is a number among numbers? -/
import Derived.Test.YtlomdlblohnfmaaDoorIrMem
import Derived.Laws.AppendOwnNone
import Derived.Deep.AppendLies
import Derived.Test.YtlomdlblohnfmaaDoorIrPr
namespace Go.Proofs.YtlomdlblohnfmaaDoor
open Go.RowKit

theorem flat_len18 {α : Type} {k : Nat} {cells : α → List Value} (hk : ∀ a, (cells a).length = k) : ∀ L : List α, (L.flatMap cells).length = L.length * k
  | [] => by simp
  | a :: L => by rw [List.flatMap_cons, List.length_append, hk, flat_len18 hk L, List.length_cons, Nat.add_mul]; omega
theorem flat_at18 {α : Type} {k : Nat} {cells : α → List Value} (hk : ∀ a, (cells a).length = k) : ∀ {L : List α} {i j : Nat} {a : α} {u : Value}, L[i]? = some a → (cells a)[j]? = some u → (L.flatMap cells)[i * k + j]? = some u
  | [], _, _, _, _, h, _ => by simp at h
  | b :: L, 0, j, a, u, h, hu => by
    obtain rfl := Option.some.inj h
    have hj := (List.getElem?_eq_some_iff.1 hu).1
    rw [List.flatMap_cons, Nat.zero_mul, Nat.zero_add, List.getElem?_append_left hj]
    exact hu
  | b :: L, i + 1, j, a, u, h, hu => by
    rw [List.flatMap_cons, List.getElem?_append_right (by rw [hk, Nat.add_mul]; omega), hk, show (i + 1) * k + j - k = i * k + j by rw [Nat.add_mul]; omega]
    exact flat_at18 hk (by simpa using h) hu
theorem flat_inv18 {α : Type} {k : Nat} {cells : α → List Value} (hk : ∀ a, (cells a).length = k) : ∀ {L : List α} {q : Nat} {u : Value}, (L.flatMap cells)[q]? = some u → ∃ (i j : Nat) (a : α), q = i * k + j ∧ L[i]? = some a ∧ (cells a)[j]? = some u
  | [], _, _, h => by simp at h
  | b :: L, q, u, h => by
    rw [List.flatMap_cons] at h
    rcases Nat.lt_or_ge q (cells b).length with hlt | hge
    · rw [List.getElem?_append_left hlt] at h
      exact ⟨0, q, b, by omega, rfl, h⟩
    · rw [List.getElem?_append_right hge, hk] at h
      obtain ⟨i, j, a, e, h1, h2⟩ := flat_inv18 hk h
      rw [hk] at hge
      exact ⟨i + 1, j, a, by rw [Nat.add_mul]; omega, by simpa using h1, h2⟩
theorem addN18 (b off j : Nat) : (⟨b, off, none⟩ : Addr).add j = ⟨b, off + j, none⟩ := by unfold Addr.add; split <;> simp_all
/-- what is appended out of a slice -/
theorem sl_news18 {α : Type} {k : Nat} {cells : α → List Value} (hk : ∀ a, (cells a).length = k) {B : Nat} {w : World} {ad : Addr} {L : List α} (h : IsSl k cells B w (some ad) L) : ∀ (q : Nat) u, (L.flatMap cells)[q]? = some u → w.cell? (ad.add q) = some u := fun q u hu => by
  obtain ⟨i, j, a, rfl, ha, hj⟩ := flat_inv18 hk hu
  obtain ⟨b, off, e, _, hc⟩ := h (fun e => by rw [e] at ha; simp at ha)
  obtain rfl := Option.some.inj e
  rw [addN18, ← Nat.add_assoc]
  exact hc i a ha j u hj
/-- a row of one's own is a slice -/
theorem own_sl18 {α : Type} {k : Nat} {cells : α → List Value} (hk : ∀ a, (cells a).length = k) {w : World} {base n : Nat} {T : TypeId} {v : Value} {L : List α} (h : w.ownsRow base T k v n (L.flatMap cells)) (hn : n = L.length) : ∃ a cap, v = .slice a L.length cap ∧ IsSl k cells w.heap.size w a L ∧ (a = none → L = [] ∧ cap = 0) := by
  subst hn
  rcases h.2 with ⟨rfl, h0⟩ | ⟨g, cap, cur, rfl, _, hg, _⟩
  · have : L = [] := List.eq_nil_of_length_eq_zero h0
    subst this
    exact ⟨none, 0, rfl, isSl_nil, fun _ => ⟨rfl, rfl⟩⟩
  · refine ⟨_, cap, rfl, fun _ => ⟨g, 0, rfl, lt_of_heap hg, fun i a ha j u hu => ?_⟩, fun h => by cases h⟩
    have := h.cells (g := g) rfl _ _ (flat_at18 hk ha hu)
    rw [addN18, ← Nat.add_assoc] at this
    exact this
end Go.Proofs.YtlomdlblohnfmaaDoor
namespace Go.Proofs.YtlomdlblohnfmaaDoor
open Go.RowKit

theorem cell_same {w w' : World} {b : Nat} (h : w'.heap[b]? = w.heap[b]?) (j : Nat) : w'.cell? ⟨b, j, none⟩ = w.cell? ⟨b, j, none⟩ := by
  unfold World.cell?
  simp only [h]
def IsSlP {α : Type} (k : Nat) (cells : α → List Value) (P : Nat → Prop) (w : World) (a : Option Addr) (L : List α) : Prop :=
  L ≠ [] → ∃ b off, a = some ⟨b, off, none⟩ ∧ P b ∧ ∀ (i : Nat) t, L[i]? = some t → ∀ (j : Nat) u, (cells t)[j]? = some u → w.cell? ⟨b, off + i * k + j, none⟩ = some u
/-- blocks of P lie in w' as in w, and are of P' -/
def KeepP (P P' : Nat → Prop) (w w' : World) : Prop := ∀ b, P b → w'.heap[b]? = w.heap[b]? ∧ P' b
theorem IsSlP.keep {α : Type} {k : Nat} {cells : α → List Value} {P P' : Nat → Prop} {w w' : World} {a : Option Addr} {L : List α} (h : IsSlP k cells P w a L) (hk : KeepP P P' w w') : IsSlP k cells P' w' a L := fun hn => by
  obtain ⟨b, off, e, hp, hc⟩ := h hn
  exact ⟨b, off, e, (hk b hp).2, fun i t ht j u hu => by rw [cell_same (hk b hp).1]; exact hc i t ht j u hu⟩
theorem IsSlP.sl {α : Type} {k : Nat} {cells : α → List Value} {P : Nat → Prop} {w : World} {a : Option Addr} {L : List α} {B : Nat} (h : IsSlP k cells P w a L) (hP : ∀ b, P b → b < B) : IsSl k cells B w a L := fun hn => by
  obtain ⟨b, off, e, hp, hc⟩ := h hn
  exact ⟨b, off, e, hP b hp, hc⟩
theorem own_slP {α : Type} {k : Nat} {cells : α → List Value} (hk : ∀ a, (cells a).length = k) {w : World} {base n : Nat} {T : TypeId} {v : Value} {L : List α} (h : w.ownsRow base T k v n (L.flatMap cells)) (hn : n = L.length) : ∃ a cap, v = .slice a L.length cap ∧ IsSlP k cells (fun b => v.ownBlock = some b ∧ base ≤ b ∧ b < w.heap.size) w a L ∧ (a = none → L = [] ∧ cap = 0) := by
  obtain ⟨a, cap, e, hs, ha⟩ := own_sl18 hk h hn
  refine ⟨a, cap, e, fun hne => ?_, ha⟩
  obtain ⟨b, off, e2, hlt, hc⟩ := hs hne
  have hb : v.ownBlock = some b := by rw [e, e2]; rfl
  exact ⟨b, off, e2, ⟨hb, h.lt b hb⟩, hc⟩
def NumsP (P : Nat → Prop) (w : World) (v : Value) (L : List Int) : Prop := ∃ a cap, v = .slice a L.length cap ∧ SlOk 8 a L.length cap ∧ IsSlP 1 intCells P w a L
def OpP (P : Nat → Prop) (w : World) (q : IrO × Value) : Prop := q.1.text.size ≤ maxLen ∧ NumsP P w q.2 q.1.args
def OpsP (P : Nat → Prop) (w : World) (v : Value) (L : List IrO) : Prop := ∃ a cap Q, v = .slice a L.length cap ∧ SlOk 80 a L.length cap ∧ Q.map Prod.fst = L ∧ IsSlP 7 opCells P w a Q ∧ ∀ q ∈ Q, OpP P w q
def BlksP (P : Nat → Prop) (w : World) (v : Value) (L : List IrB) : Prop := ∃ a cap Q, v = .slice a L.length cap ∧ SlOk 64 a L.length cap ∧ Q.map Prod.fst = L ∧ IsSlP 6 blkCells P w a Q ∧ ∀ q ∈ Q, OpsP P w q.2 q.1.ops
def SlotsP (P : Nat → Prop) (w : World) (v : Value) (L : List IrS) : Prop := ∃ a cap, v = .slice a L.length cap ∧ SlOk 24 a L.length cap ∧ IsSlP 3 slotCells P w a L
structure FnP (P : Nat → Prop) (w : World) (f : IrF) (vs vb : Value) : Prop where
  name : f.name.size ≤ maxLen
  slots : SlotsP P w vs f.slots
  blocks : BlksP P w vb f.blocks
theorem NumsP.keep {P P' : Nat → Prop} {w w' : World} {v : Value} {L : List Int} (h : NumsP P w v L) (hk : KeepP P P' w w') : NumsP P' w' v L := by
  obtain ⟨a, cap, e, ho, hs⟩ := h
  exact ⟨a, cap, e, ho, hs.keep hk⟩
theorem OpP.keep {P P' : Nat → Prop} {w w' : World} {q : IrO × Value} (h : OpP P w q) (hk : KeepP P P' w w') : OpP P' w' q := ⟨h.1, h.2.keep hk⟩
theorem OpsP.keep {P P' : Nat → Prop} {w w' : World} {v : Value} {L : List IrO} (h : OpsP P w v L) (hk : KeepP P P' w w') : OpsP P' w' v L := by
  obtain ⟨a, cap, Q, e, ho, hQ, hs, hq⟩ := h
  exact ⟨a, cap, Q, e, ho, hQ, hs.keep hk, fun q hm => (hq q hm).keep hk⟩
theorem BlksP.keep {P P' : Nat → Prop} {w w' : World} {v : Value} {L : List IrB} (h : BlksP P w v L) (hk : KeepP P P' w w') : BlksP P' w' v L := by
  obtain ⟨a, cap, Q, e, ho, hQ, hs, hq⟩ := h
  exact ⟨a, cap, Q, e, ho, hQ, hs.keep hk, fun q hm => (hq q hm).keep hk⟩
theorem SlotsP.keep {P P' : Nat → Prop} {w w' : World} {v : Value} {L : List IrS} (h : SlotsP P w v L) (hk : KeepP P P' w w') : SlotsP P' w' v L := by
  obtain ⟨a, cap, e, ho, hs⟩ := h
  exact ⟨a, cap, e, ho, hs.keep hk⟩
theorem FnP.keep {P P' : Nat → Prop} {w w' : World} {f : IrF} {vs vb : Value} (h : FnP P w f vs vb) (hk : KeepP P P' w w') : FnP P' w' f vs vb := ⟨h.name, h.slots.keep hk, h.blocks.keep hk⟩
theorem NumsP.is {P : Nat → Prop} {w : World} {v : Value} {L : List Int} {B : Nat} (h : NumsP P w v L) (hP : ∀ b, P b → b < B) : IsNums B w v L := by
  obtain ⟨a, cap, e, ho, hs⟩ := h
  exact ⟨a, cap, e, ho, hs.sl hP⟩
theorem OpsP.is {P : Nat → Prop} {w : World} {v : Value} {L : List IrO} {B : Nat} (h : OpsP P w v L) (hP : ∀ b, P b → b < B) : IsOps B w v L := by
  obtain ⟨a, cap, Q, e, ho, hQ, hs, hq⟩ := h
  exact ⟨a, cap, Q, e, ho, hQ, hs.sl hP, fun q hm => ⟨(hq q hm).1, (hq q hm).2.is hP⟩⟩
theorem BlksP.is {P : Nat → Prop} {w : World} {v : Value} {L : List IrB} {B : Nat} (h : BlksP P w v L) (hP : ∀ b, P b → b < B) : IsBlks B w v L := by
  obtain ⟨a, cap, Q, e, ho, hQ, hs, hq⟩ := h
  exact ⟨a, cap, Q, e, ho, hQ, hs.sl hP, fun q hm => (hq q hm).is hP⟩
theorem FnP.is {P : Nat → Prop} {w : World} {f : IrF} {vs vb : Value} {B : Nat} (h : FnP P w f vs vb) (hP : ∀ b, P b → b < B) : IsFn B w f vs vb := by
  obtain ⟨a, cap, e, ho, hs⟩ := h.slots
  exact ⟨h.name, ⟨a, cap, e, ho, hs.sl hP⟩, h.blocks.is hP⟩
/-- what is made new: from B on; what is not v's own block -/
abbrev NewB (B : Nat) (w : World) : Nat → Prop := fun b => B ≤ b ∧ b < w.heap.size
abbrev OffB (B : Nat) (w : World) (v : Value) : Nat → Prop := fun b => B ≤ b ∧ b < w.heap.size ∧ v.ownBlock ≠ some b
theorem keep_off {B : Nat} {w w' : World} {v : Value} {row : Option Nat} (hg : w.grownBy w' row) (hr : ∀ r, row = some r → r < B ∨ v.ownBlock = some r) : KeepP (OffB B w v) (OffB B w' v) w w' := fun b ⟨h1, h2, h3⟩ =>
  ⟨hg.block b h2 (fun e => by rcases hr b e.symm with h | h; omega; exact h3 h), h1, Nat.lt_of_lt_of_le h2 hg.size, h3⟩
theorem keep_push {B : Nat} {w w' : World} {v v' : Value} (hg : w.grownBy w' v.ownBlock) (hv : ∀ g, v'.ownBlock = some g → v.ownBlock = some g ∨ g = w.heap.size) : KeepP (OffB B w v) (OffB B w' v') w w' := fun b ⟨h1, h2, h3⟩ =>
  ⟨hg.block b h2 (fun e => h3 e.symm), h1, Nat.lt_of_lt_of_le h2 hg.size, fun e => by
    rcases hv b e with h | h
    · exact h3 h
    · omega⟩
theorem grn_blw {w w' : World} (row : Option Nat) (hb : Below w.heap.size w w') : w.grownBy w' row := ⟨hb.os, hb.tape, hb.output, hb.size, fun k hk _ => hb.block k hk⟩
theorem grn_set (W : World) (b j : Nat) (v : Value) : W.grownBy (W.setCell ⟨b, j, none⟩ v) (some b) :=
  ⟨rfl, rfl, rfl, by simp, fun k _ hne => heap_setCell_other _ _ _ _ (fun e => hne (by rw [e]))⟩
theorem op_len (q : IrO × Value) : (opCells q).length = 7 := rfl
theorem blk_len (q : IrB × Value) : (blkCells q).length = 6 := rfl
theorem slot_len (s : IrS) : (slotCells s).length = 3 := rfl
/-- operations, in a row of one's own that grows -/
def OpsRow (B : Nat) (w : World) (v : Value) (Q : List (IrO × Value)) : Prop := w.ownsRow B 54 7 v Q.length (Q.flatMap opCells) ∧ ∀ q ∈ Q, OpP (OffB B w v) w q
theorem opsRow_nil (B : Nat) (w : World) : OpsRow B w (.slice none 0 0) [] := ⟨World.ownsRow_nil _ _ _ _, fun _ h => by cases h⟩
theorem OpsRow.kept {B : Nat} {w w' : World} {v : Value} {Q : List (IrO × Value)} {row : Option Nat} (h : OpsRow B w v Q) (hg : w.grownBy w' row) (hr : ∀ r, row = some r → r < B) : OpsRow B w' v Q :=
  ⟨h.1.kept hg (by
    cases hv : v.ownBlock with
    | none => exact .inl rfl
    | some r => exact .inr (fun e => by have := hr r e.symm; have := (h.1.lt r hv).1; omega)), fun q hq => (h.2 q hq).keep (keep_off hg (fun r e => .inl (hr r e)))⟩
theorem OpsRow.push {B : Nat} {w w' : World} {v v' : Value} {Q : List (IrO × Value)} {q : IrO × Value} (h : OpsRow B w v Q) (hq : OpP (OffB B w v) w q) (hown : w'.ownsRow B 54 7 v' (Q.length + 1) (Q.flatMap opCells ++ opCells q)) (hg : w.grownBy w' v.ownBlock)
    (hv : ∀ g, v'.ownBlock = some g → v.ownBlock = some g ∨ g = w.heap.size) : OpsRow B w' v' (Q ++ [q]) := by
  refine ⟨?_, fun x hx => ?_⟩
  · rw [List.length_append, List.flatMap_append]
    simpa using hown
  · rcases List.mem_append.1 hx with hx | hx
    · exact (h.2 x hx).keep (keep_push hg hv)
    · rw [List.mem_singleton.1 hx]
      exact hq.keep (keep_push hg hv)
theorem OpsRow.is {B : Nat} {w : World} {v : Value} {Q : List (IrO × Value)} (h : OpsRow B w v Q) (hz : Q.length * 80 ≤ 140737488351232) : OpsP (NewB B w) w v (Q.map Prod.fst) := by
  obtain ⟨a, cap, e, hs, ha⟩ := own_slP op_len h.1 rfl
  have hk : KeepP (OffB B w v) (NewB B w) w w := fun b ⟨h1, h2, _⟩ => ⟨rfl, h1, h2⟩
  exact ⟨a, cap, Q, by rw [List.length_map]; exact e, ⟨by rw [List.length_map]; exact hz, fun e => ⟨by rw [(ha e).1]; rfl, (ha e).2⟩⟩, rfl, hs.keep (fun b ⟨_, h1, h2⟩ => ⟨rfl, h1, h2⟩), fun q hq => (h.2 q hq).keep hk⟩
/-- blocks, in a row of one's own that grows -/
def BlksRow (B : Nat) (w : World) (v : Value) (Q : List (IrB × Value)) : Prop := w.ownsRow B 41 6 v Q.length (Q.flatMap blkCells) ∧ ∀ q ∈ Q, OpsP (OffB B w v) w q.2 q.1.ops
theorem BlksRow.kept {B : Nat} {w w' : World} {v : Value} {Q : List (IrB × Value)} {row : Option Nat} (h : BlksRow B w v Q) (hg : w.grownBy w' row) (hr : ∀ r, row = some r → r < B) : BlksRow B w' v Q :=
  ⟨h.1.kept hg (by
    cases hv : v.ownBlock with
    | none => exact .inl rfl
    | some r => exact .inr (fun e => by have := hr r e.symm; have := (h.1.lt r hv).1; omega)), fun q hq => (h.2 q hq).keep (keep_off hg (fun r e => .inl (hr r e)))⟩
theorem BlksRow.push {B : Nat} {w w' : World} {v v' : Value} {Q : List (IrB × Value)} {q : IrB × Value} (h : BlksRow B w v Q) (hq : OpsP (OffB B w v) w q.2 q.1.ops) (hown : w'.ownsRow B 41 6 v' (Q.length + 1) (Q.flatMap blkCells ++ blkCells q)) (hg : w.grownBy w' v.ownBlock)
    (hv : ∀ g, v'.ownBlock = some g → v.ownBlock = some g ∨ g = w.heap.size) : BlksRow B w' v' (Q ++ [q]) := by
  refine ⟨?_, fun x hx => ?_⟩
  · rw [List.length_append, List.flatMap_append]
    simpa using hown
  · rcases List.mem_append.1 hx with hx | hx
    · exact (h.2 x hx).keep (keep_push hg hv)
    · rw [List.mem_singleton.1 hx]
      exact hq.keep (keep_push hg hv)
theorem BlksRow.is {B : Nat} {w : World} {v : Value} {Q : List (IrB × Value)} (h : BlksRow B w v Q) (hz : Q.length * 64 ≤ 140737488351232) : BlksP (NewB B w) w v (Q.map Prod.fst) := by
  obtain ⟨a, cap, e, hs, ha⟩ := own_slP blk_len h.1 rfl
  have hk : KeepP (OffB B w v) (NewB B w) w w := fun b ⟨h1, h2, _⟩ => ⟨rfl, h1, h2⟩
  exact ⟨a, cap, Q, by rw [List.length_map]; exact e, ⟨by rw [List.length_map]; exact hz, fun e => ⟨by rw [(ha e).1]; rfl, (ha e).2⟩⟩, rfl, hs.keep (fun b ⟨_, h1, h2⟩ => ⟨rfl, h1, h2⟩), fun q hq => (h.2 q hq).keep hk⟩
end Go.Proofs.YtlomdlblohnfmaaDoor
namespace Go.Proofs.YtlomdlblohnfmaaDoor
open Go.RowKit

theorem ba18 (w : World) (o : Obj) : Below w.heap.size w (w.alloc o) := (Below.refl _ _).alloc (Nat.le_refl _) _
theorem ints18_len (a : Int) : (intCells a).length = 1 := rfl
theorem ints18_one (t : List Int) : ∀ u ∈ t.flatMap intCells, u.oneCell' = true := fun u hu => by
  obtain ⟨x, _, hx⟩ := List.mem_flatMap.1 hu
  simp only [intCells, List.mem_cons, List.not_mem_nil, or_false] at hx
  subst hx; rfl
theorem nil_ints18 (w : World) {base : Nat} (hb : base ≤ w.heap.size) : (w.alloc (.cells #[] 3)).ownsRow base 3 1 (.slice (some ⟨w.heap.size, 0, none⟩) 0 0) 0 [] := World.ownsRow_lit w #[] 0 hb (by decide) rfl
set_option maxHeartbeats 4000000 in
theorem copyInts_ok (a : Option Addr) (cap : Nat) (t : List Int) (w : World) (hI : IsSl 1 intCells w.heap.size w a t) (hz : t.length * 8 ≤ 140737488351232) (hnil : a = none → t = [] ∧ cap = 0) :
    Calls Tryd.prog 23 #[.slice a t.length cap] w fun e w' => (∃ v, e = .returned v ∧ w'.ownsRow w.heap.size 3 1 v t.length (t.flatMap intCells)) ∧ Below w.heap.size w w' := by
  obtain ⟨i0, hi, hz0, hz1, hz2⟩ := info_parts (show (Tryd.prog.info? 3).map (fun i => (i.zero, i.size, i.bytes)) = some (some (.int .i64 0), 1, 8) by kernel_rfl)
  have HI0 := Lib.hid (And.intro hi (And.intro hz0 (And.intro hz1 hz2)))
  clear hi hz0 hz1 hz2
  cases a with
  | none =>
    obtain ⟨rfl, rfl⟩ := hnil rfl
    clear hI hnil
    go_enter Tryd.func23, Tryd.ntmps23
    go_wp2_with (at_builtin; go_loud (refine wpList_append_own_none rfl _ _ _ rfl w.heap.size 3 i0 1 Tryd.underlying43 HI0.out.1 _ 0 [] rfl (nil_ints18 _ (Nat.le_refl _)) rfl ?_))
    go_ret
    exact ⟨⟨_, rfl, nil_ints18 _ (Nat.le_refl _)⟩, ba18 _ _⟩
  | some ad =>
    have HI := Lib.hid hI
    have HL := Lib.hid (flat_len18 ints18_len t)
    clear hI hnil
    go_enter Tryd.func23, Tryd.ntmps23
    go_wp2_with (at_builtin; go_loud (refine wpList_append_own _ rfl _ _ _ rfl w.heap.size 3 i0 _ 1 8 Tryd.underlying43 HI0.out.1 HI0.out.2.1 HI0.out.2.2.1 HI0.out.2.2.2 rfl (by decide) _ 0 [] rfl (nil_ints18 _ (Nat.le_refl _)) ad t.length cap (t.flatMap intCells) rfl HL.out (sl_news18 ints18_len (HI.out.below (ba18 _ _) (Nat.le_refl _))) (ints18_one t) (by unfold maxLen; omega) (by omega) (ba18 _ _).size ?_))
    intro v' w' hown hgrow _
    go_wp2_with fail
    go_ret
    refine ⟨⟨v', rfl, by simpa using hown⟩, (ba18 _ _).grown hgrow (ba18 _ _).size (fun k hk => by simp [Value.ownBlock] at hk; omega)⟩
theorem texts18_len (a : ByteArray) : (strCells1 a).length = 1 := rfl
theorem texts18_one (t : List ByteArray) : ∀ u ∈ t.flatMap strCells1, u.oneCell' = true := fun u hu => by
  obtain ⟨x, _, hx⟩ := List.mem_flatMap.1 hu
  simp only [strCells1, List.mem_cons, List.not_mem_nil, or_false] at hx
  subst hx; rfl
theorem nil_texts18 (w : World) {base : Nat} (hb : base ≤ w.heap.size) : (w.alloc (.cells #[] 9)).ownsRow base 9 1 (.slice (some ⟨w.heap.size, 0, none⟩) 0 0) 0 [] := World.ownsRow_lit w #[] 0 hb (by decide) rfl
set_option maxHeartbeats 4000000 in
theorem copyTexts_ok (a : Option Addr) (cap : Nat) (t : List ByteArray) (w : World) (hI : IsSl 1 strCells1 w.heap.size w a t) (hz : t.length * 16 ≤ 140737488351232) (hnil : a = none → t = [] ∧ cap = 0) :
    Calls Tryd.prog 24 #[.slice a t.length cap] w fun e w' => (∃ v, e = .returned v ∧ w'.ownsRow w.heap.size 9 1 v t.length (t.flatMap strCells1)) ∧ Below w.heap.size w w' := by
  obtain ⟨i0, hi, hz0, hz1, hz2⟩ := info_parts (show (Tryd.prog.info? 9).map (fun i => (i.zero, i.size, i.bytes)) = some (some (.string ⟨#[]⟩), 1, 16) by kernel_rfl)
  have HI0 := Lib.hid (And.intro hi (And.intro hz0 (And.intro hz1 hz2)))
  clear hi hz0 hz1 hz2
  cases a with
  | none =>
    obtain ⟨rfl, rfl⟩ := hnil rfl
    clear hI hnil
    go_enter Tryd.func24, Tryd.ntmps24
    go_wp2_with (at_builtin; go_loud (refine wpList_append_own_none rfl _ _ _ rfl w.heap.size 9 i0 1 Tryd.underlying23 HI0.out.1 _ 0 [] rfl (nil_texts18 _ (Nat.le_refl _)) rfl ?_))
    go_ret
    exact ⟨⟨_, rfl, nil_texts18 _ (Nat.le_refl _)⟩, ba18 _ _⟩
  | some ad =>
    have HI := Lib.hid hI
    have HL := Lib.hid (flat_len18 texts18_len t)
    clear hI hnil
    go_enter Tryd.func24, Tryd.ntmps24
    go_wp2_with (at_builtin; go_loud (refine wpList_append_own _ rfl _ _ _ rfl w.heap.size 9 i0 _ 1 16 Tryd.underlying23 HI0.out.1 HI0.out.2.1 HI0.out.2.2.1 HI0.out.2.2.2 rfl (by decide) _ 0 [] rfl (nil_texts18 _ (Nat.le_refl _)) ad t.length cap (t.flatMap strCells1) rfl HL.out (sl_news18 texts18_len (HI.out.below (ba18 _ _) (Nat.le_refl _))) (texts18_one t) (by unfold maxLen; omega) (by omega) (ba18 _ _).size ?_))
    intro v' w' hown hgrow _
    go_wp2_with fail
    go_ret
    refine ⟨⟨v', rfl, by simpa using hown⟩, (ba18 _ _).grown hgrow (ba18 _ _).size (fun k hk => by simp [Value.ownBlock] at hk; omega)⟩
theorem bytes18_len (a : UInt8) : (byteCells1 a).length = 1 := rfl
theorem bytes18_one (t : List UInt8) : ∀ u ∈ t.flatMap byteCells1, u.oneCell' = true := fun u hu => by
  obtain ⟨x, _, hx⟩ := List.mem_flatMap.1 hu
  simp only [byteCells1, List.mem_cons, List.not_mem_nil, or_false] at hx
  subst hx; rfl
theorem nil_bytes18 (w : World) {base : Nat} (hb : base ≤ w.heap.size) : (w.alloc (.cells #[] 5)).ownsRow base 5 1 (.slice (some ⟨w.heap.size, 0, none⟩) 0 0) 0 [] := World.ownsRow_lit w #[] 0 hb (by decide) rfl
set_option maxHeartbeats 4000000 in
theorem copyBytes_ok (a : Option Addr) (cap : Nat) (t : List UInt8) (w : World) (hI : IsSl 1 byteCells1 w.heap.size w a t) (hz : t.length * 1 ≤ 140737488351232) (hnil : a = none → t = [] ∧ cap = 0) :
    Calls Tryd.prog 25 #[.slice a t.length cap] w fun e w' => (∃ v, e = .returned v ∧ w'.ownsRow w.heap.size 5 1 v t.length (t.flatMap byteCells1)) ∧ Below w.heap.size w w' := by
  obtain ⟨i0, hi, hz0, hz1, hz2⟩ := info_parts (show (Tryd.prog.info? 5).map (fun i => (i.zero, i.size, i.bytes)) = some (some (.int .u8 0), 1, 1) by kernel_rfl)
  have HI0 := Lib.hid (And.intro hi (And.intro hz0 (And.intro hz1 hz2)))
  clear hi hz0 hz1 hz2
  cases a with
  | none =>
    obtain ⟨rfl, rfl⟩ := hnil rfl
    clear hI hnil
    go_enter Tryd.func25, Tryd.ntmps25
    go_wp2_with (at_builtin; go_loud (refine wpList_append_own_none rfl _ _ _ rfl w.heap.size 5 i0 1 Tryd.underlying47 HI0.out.1 _ 0 [] rfl (nil_bytes18 _ (Nat.le_refl _)) rfl ?_))
    go_ret
    exact ⟨⟨_, rfl, nil_bytes18 _ (Nat.le_refl _)⟩, ba18 _ _⟩
  | some ad =>
    have HI := Lib.hid hI
    have HL := Lib.hid (flat_len18 bytes18_len t)
    clear hI hnil
    go_enter Tryd.func25, Tryd.ntmps25
    go_wp2_with (at_builtin; go_loud (refine wpList_append_own _ rfl _ _ _ rfl w.heap.size 5 i0 _ 1 1 Tryd.underlying47 HI0.out.1 HI0.out.2.1 HI0.out.2.2.1 HI0.out.2.2.2 rfl (by decide) _ 0 [] rfl (nil_bytes18 _ (Nat.le_refl _)) ad t.length cap (t.flatMap byteCells1) rfl HL.out (sl_news18 bytes18_len (HI.out.below (ba18 _ _) (Nat.le_refl _))) (bytes18_one t) (by unfold maxLen; omega) (by omega) (ba18 _ _).size ?_))
    intro v' w' hown hgrow _
    go_wp2_with fail
    go_ret
    refine ⟨⟨v', rfl, by simpa using hown⟩, (ba18 _ _).grown hgrow (ba18 _ _).size (fun k hk => by simp [Value.ownBlock] at hk; omega)⟩
theorem cell18 {B : Nat} {w : World} {a : Option Addr} {L : List Int} (h : IsSl 1 intCells B w a L) {j : Nat} (hj : j < L.length) : ∃ b off, a = some ⟨b, off, none⟩ ∧ b < B ∧ w.cell? ⟨b, off + j, none⟩ = some (.int .i64 L[j]) := by
  obtain ⟨b, off, e, hlt, hc⟩ := h (fun e => by rw [e] at hj; simp at hj)
  refine ⟨b, off, e, hlt, ?_⟩
  have := hc j _ (List.getElem?_eq_getElem hj) 0 _ rfl
  rwa [Nat.mul_one, Nat.add_zero] at this
set_option maxHeartbeats 4000000 in
theorem has18_ok (a : Option Addr) (ca : Nat) (L : List Int) (x : Int) (w : World) (hA : IsSl 1 intCells w.heap.size w a L) (hl : (L.length : Int) ≤ 140737488355328) :
    Calls Tryd.prog 10 #[.slice a L.length ca, .int .i64 x] w fun e w' => e = .returned (.bool (L.contains x)) ∧ Below w.heap.size w w' := by
  have HA := Lib.hid hA
  clear hA
  go_enter Tryd.func10, Tryd.ntmps10
  go_wp2_with fail
  go_loopg [5] L.length (fun m v5 wy => ∃ (i : Nat), i ≤ L.length ∧ i + m = L.length ∧ v5 = .int .i64 (i : Int) ∧ Hid (∀ k (hk : k < L.length), k < i → L[k] ≠ x) ∧ wy = w)
  case atStart => exact ⟨0, by omega, by omega, rfl, Lib.hid (fun k _ h => by omega), rfl⟩
  case round =>
    obtain ⟨i, hi, him, rfl, HN, hw⟩ := hrel
    subst hw
    by_cases hlt : i < L.length
    · obtain ⟨b1, o1, ha, hb1, c1⟩ := cell18 HA.out hlt
      subst ha
      have hi1 : (i : Int) < (L.length : Int) := by omega
      by_cases he : L[i] = x
      · have HC := Lib.hid (show L.contains x = true by rw [List.contains_iff_mem, ← he]; exact List.getElem_mem hlt)
        have t1 : (L[i] == x) = true := by rw [he]; simp
        generalize L[i] = q at *
        go_wp2_with fail
        go_ret
        exact ⟨by rw [HC.out]; rfl, Below.refl _ _⟩
      · have HN2 := Lib.hid (show ∀ k (hk : k < L.length), k < i + 1 → L[k] ≠ x from fun k hk h => by
          rcases Nat.lt_or_ge k i with h' | h'
          · exact HN.out k hk h'
          · obtain rfl : k = i := by omega
            exact he)
        have t1 : (L[i] == x) = false := by simpa using he
        generalize L[i] = q at *
        clear he
        go_wp2_with fail
        go_roundg (L.length - (i + 1))
        case measure => omega
        case rel => exact ⟨i + 1, by omega, by omega, by rw [Int.natCast_add]; rfl, HN2, by trivial⟩
    · obtain rfl : i = L.length := by omega
      have HC := Lib.hid (show L.contains x = false by
        rw [← Bool.not_eq_true, List.contains_iff_mem]
        intro hm
        obtain ⟨k, hk, e⟩ := List.getElem_of_mem hm
        exact HN.out k hk hk e)
      have hi1 : (L.length : Int) ≤ (L.length : Int) := Int.le_refl _
      clear hlt
      go_wp2_with fail
      go_ret
      exact ⟨by rw [HC.out]; rfl, Below.refl _ _⟩
end Go.Proofs.YtlomdlblohnfmaaDoor
