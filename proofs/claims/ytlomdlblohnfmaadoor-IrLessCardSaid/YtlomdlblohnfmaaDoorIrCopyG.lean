/- A program copied: what is said of its parts. -/
import Derived.Test.YtlomdlblohnfmaaDoorIrCopyF
namespace Go.Proofs.YtlomdlblohnfmaaDoor
open Go.RowKit

/-- a global, in blocks of P -/
def GlP (P : Nat → Prop) (w : World) (q : IrG × Value × Value) : Prop := q.1.name.size ≤ maxLen ∧
  (∃ a cap, q.2.1 = .slice a q.1.bytes.length cap ∧ q.1.bytes.length ≤ cap ∧ SlOk 1 a q.1.bytes.length cap ∧ IsSlP 1 byteCells1 P w a q.1.bytes) ∧
  (∃ a cap, q.2.2 = .slice a q.1.words.length cap ∧ SlOk 40 a q.1.words.length cap ∧ IsSlP 4 wdCells P w a q.1.words ∧ ∀ x ∈ q.1.words, x.text.size ≤ maxLen)
theorem GlP.keep {P P' : Nat → Prop} {w w' : World} {q : IrG × Value × Value} (h : GlP P w q) (hk : KeepP P P' w w') : GlP P' w' q := by
  obtain ⟨h1, ⟨a, cap, e, hc, ho, hs⟩, ⟨a2, cap2, e2, ho2, hs2, ht⟩⟩ := h
  exact ⟨h1, ⟨a, cap, e, hc, ho, hs.keep hk⟩, ⟨a2, cap2, e2, ho2, hs2.keep hk, ht⟩⟩
theorem GlP.is {P : Nat → Prop} {w : World} {q : IrG × Value × Value} {B : Nat} (h : GlP P w q) (hP : ∀ b, P b → b < B) : q.1.name.size ≤ maxLen ∧ IsByt B w q.2.1 q.1.bytes ∧ IsWds B w q.2.2 q.1.words := by
  obtain ⟨h1, ⟨a, cap, e, hc, ho, hs⟩, ⟨a2, cap2, e2, ho2, hs2, ht⟩⟩ := h
  exact ⟨h1, ⟨a, cap, e, hc, ho, hs.sl hP⟩, ⟨a2, cap2, e2, ho2, hs2.sl hP, ht⟩⟩
/-- a row of one's own that grows, of elements that lie elsewhere -/
def RowOf {α : Type} (T : TypeId) (k : Nat) (cells : α → List Value) (Ok : (Nat → Prop) → World → α → Prop) (B : Nat) (w : World) (v : Value) (Q : List α) : Prop :=
  w.ownsRow B T k v Q.length (Q.flatMap cells) ∧ ∀ q ∈ Q, Ok (OffB B w v) w q
abbrev KeepOk {α : Type} (Ok : (Nat → Prop) → World → α → Prop) : Prop := ∀ (P P' : Nat → Prop) (w w' : World) (q : α), Ok P w q → KeepP P P' w w' → Ok P' w' q
theorem rowOf_nil {α : Type} {T : TypeId} {k : Nat} {cells : α → List Value} {Ok : (Nat → Prop) → World → α → Prop} (B : Nat) (w : World) : RowOf T k cells Ok B w (.slice none 0 0) [] := ⟨World.ownsRow_nil _ _ _ _, fun _ h => by cases h⟩
theorem RowOf.kept {α : Type} {T : TypeId} {k : Nat} {cells : α → List Value} {Ok : (Nat → Prop) → World → α → Prop} (hk : KeepOk Ok) {B : Nat} {w w' : World} {v : Value} {Q : List α} {row : Option Nat} (h : RowOf T k cells Ok B w v Q) (hg : w.grownBy w' row) (hr : ∀ r, row = some r → r < B) : RowOf T k cells Ok B w' v Q :=
  ⟨h.1.kept hg (by
    cases hv : v.ownBlock with
    | none => exact .inl rfl
    | some r => exact .inr (fun e => by have := hr r e.symm; have := (h.1.lt r hv).1; omega)), fun q hq => hk _ _ _ _ _ (h.2 q hq) (keep_off hg (fun r e => .inl (hr r e)))⟩
theorem RowOf.step {α : Type} {T : TypeId} {k : Nat} {cells : α → List Value} {Ok : (Nat → Prop) → World → α → Prop} (hk : KeepOk Ok) {B : Nat} {w w' : World} {v : Value} {i g cap : Nat} {Q : List α} {q : α} (h : RowOf T k cells Ok B w v Q) (hq : Ok (OffB B w v) w q) (hi : Q.length = i)
    (hown : w'.ownsRow B T k (.slice (some ⟨g, 0, none⟩) (i + 1) cap) (i + 1) (Q.flatMap cells ++ cells q)) (hg : w.grownBy w' v.ownBlock) (hv : v.ownBlock = some g ∨ g = w.heap.size) : RowOf T k cells Ok B w' (.slice (some ⟨g, 0, none⟩) (i + 1) cap) (Q ++ [q]) := by
  have hkp : KeepP (OffB B w v) (OffB B w' (.slice (some ⟨g, 0, none⟩) (i + 1) cap)) w w' := keep_push hg (fun g' e => by cases e; exact hv)
  refine ⟨?_, fun x hx => ?_⟩
  · rw [List.length_append, List.flatMap_append, hi]
    simpa using hown
  · rcases List.mem_append.1 hx with hx | hx
    · exact hk _ _ _ _ _ (h.2 x hx) hkp
    · rw [List.mem_singleton.1 hx]
      exact hk _ _ _ _ _ hq hkp
abbrev GlsRow : Nat → World → Value → List (IrG × Value × Value) → Prop := RowOf 50 4 glCells GlP
abbrev FnsRow : Nat → World → Value → List (IrF × Value × Value) → Prop := RowOf 35 5 fnCells (fun P w q => FnP P w q.1 q.2.1 q.2.2)
theorem glP_keep : KeepOk GlP := fun _ _ _ _ _ h k => h.keep k
theorem fnP_keep : KeepOk (fun P w (q : IrF × Value × Value) => FnP P w q.1 q.2.1 q.2.2) := fun _ _ _ _ _ h k => h.keep k
theorem gl_len (q : IrG × Value × Value) : (glCells q).length = 4 := rfl
theorem fn_len (q : IrF × Value × Value) : (fnCells q).length = 5 := rfl
theorem wd_len (x : IrW) : (wdCells x).length = 4 := rfl
theorem wds_one (t : List IrW) : ∀ u ∈ t.flatMap wdCells, u.oneCell' = true := fun u hu => by
  obtain ⟨x, _, hx⟩ := List.mem_flatMap.1 hu
  simp only [wdCells, List.mem_cons, List.not_mem_nil, or_false] at hx
  rcases hx with rfl | rfl | rfl | rfl <;> rfl
theorem glCells_one (q : IrG × Value × Value) (h : ∃ a n c, q.2.1 = .slice a n c) (h2 : ∃ a n c, q.2.2 = .slice a n c) : ∀ u ∈ glCells q, u.oneCell' = true := fun u hu => by
  obtain ⟨a, n, c, e⟩ := h
  obtain ⟨a2, n2, c2, e2⟩ := h2
  simp only [glCells, e, e2, List.mem_cons, List.not_mem_nil, or_false] at hu
  rcases hu with rfl | rfl | rfl | rfl <;> rfl
theorem row_cap {w : World} {base n : Nat} {T : TypeId} {k : Nat} {v : Value} {xs : List Value} (h : w.ownsRow base T k v n xs) : ∀ a m cap, v = .slice a m cap → n ≤ cap := fun a m cap e => by
  rcases h.2 with ⟨rfl, h0⟩ | ⟨g, cap', cur, rfl, _, _, hn, _⟩
  · omega
  · cases e; exact hn
theorem GlsRow.is {B : Nat} {w : World} {v : Value} {Q : List (IrG × Value × Value)} (h : GlsRow B w v Q) (hz : Q.length ≤ 4096) : IsGls w.heap.size w v (Q.map Prod.fst) := by
  obtain ⟨a, cap, e, hs, ha⟩ := own_sl18 gl_len h.1 rfl
  exact ⟨a, cap, Q, by rw [List.length_map]; exact e, ⟨by rw [List.length_map]; omega, fun e => ⟨by rw [(ha e).1]; rfl, (ha e).2⟩⟩, rfl, hs, fun q hq => (h.2 q hq).is (fun b hb => hb.2.1)⟩
theorem FnsRow.is {B : Nat} {w : World} {v : Value} {Q : List (IrF × Value × Value)} (h : FnsRow B w v Q) (hz : Q.length ≤ 4096) : IsFns w.heap.size w v (Q.map Prod.fst) := by
  obtain ⟨a, cap, e, hs, ha⟩ := own_sl18 fn_len h.1 rfl
  exact ⟨a, cap, Q, by rw [List.length_map]; exact e, ⟨by rw [List.length_map]; omega, fun e => ⟨by rw [(ha e).1]; rfl, (ha e).2⟩⟩, rfl, hs, fun q hq => (h.2 q hq).is (fun b hb => hb.2.1)⟩
theorem three18 {w : World} {b : Nat} {a0 a1 a2 : Value} {T : TypeId} (h : w.heap[b]? = some (.cells #[a0, a1, a2] T (0, 0))) :
    (w.cell? ⟨b, 0, none⟩ = some a0 ∧ w.cell? ⟨b, 1, none⟩ = some a1 ∧ w.cell? ⟨b, 2, none⟩ = some a2) ∧ (w.frozen? ⟨b, 0, none⟩ = false ∧ w.frozen? ⟨b, 1, none⟩ = false ∧ w.frozen? ⟨b, 2, none⟩ = false) := by
  refine ⟨⟨?_, ?_, ?_⟩, ?_, ?_, ?_⟩ <;> simp [World.cell?, World.frozen?, h]
theorem four18 {w : World} {b : Nat} {a0 a1 a2 a3 : Value} {T : TypeId} (h : w.heap[b]? = some (.cells #[a0, a1, a2, a3] T (0, 0))) :
    (w.cell? ⟨b, 0, none⟩ = some a0 ∧ w.cell? ⟨b, 1, none⟩ = some a1 ∧ w.cell? ⟨b, 2, none⟩ = some a2 ∧ w.cell? ⟨b, 3, none⟩ = some a3) ∧ (w.frozen? ⟨b, 1, none⟩ = false ∧ w.frozen? ⟨b, 3, none⟩ = false) := by
  refine ⟨⟨?_, ?_, ?_, ?_⟩, ?_, ?_⟩ <;> simp [World.cell?, World.frozen?, h]
end Go.Proofs.YtlomdlblohnfmaaDoor

