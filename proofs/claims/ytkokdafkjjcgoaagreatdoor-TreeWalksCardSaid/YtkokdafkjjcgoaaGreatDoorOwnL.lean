/- Rows of one's own, as lists of elements of k cells each. -/
import Derived.Test.YtkokdafkjjcgoaaGreatDoorOpenL
namespace Go.Proofs.YtkokdafkjjcgoaaGreatDoor
open Go.RowKit

theorem flat_len {α : Type} {k : Nat} {cells : α → List Value} (hk : ∀ a, (cells a).length = k) : ∀ L : List α, (L.flatMap cells).length = L.length * k
  | [] => by simp
  | a :: L => by rw [List.flatMap_cons, List.length_append, hk, flat_len hk L, List.length_cons, Nat.add_mul]; omega
theorem flat_at {α : Type} {k : Nat} {cells : α → List Value} (hk : ∀ a, (cells a).length = k) : ∀ {L : List α} {i j : Nat} {a : α} {u : Value}, L[i]? = some a → (cells a)[j]? = some u → (L.flatMap cells)[i * k + j]? = some u
  | [], _, _, _, _, h, _ => by simp at h
  | b :: L, 0, j, a, u, h, hu => by
    obtain rfl := Option.some.inj h
    have hj := (List.getElem?_eq_some_iff.1 hu).1
    rw [List.flatMap_cons, Nat.zero_mul, Nat.zero_add, List.getElem?_append_left hj]
    exact hu
  | b :: L, i + 1, j, a, u, h, hu => by
    rw [List.flatMap_cons, List.getElem?_append_right (by rw [hk, Nat.add_mul]; omega), hk, show (i + 1) * k + j - k = i * k + j by rw [Nat.add_mul]; omega]
    exact flat_at hk (by simpa using h) hu
theorem flat_inv {α : Type} {k : Nat} {cells : α → List Value} (hk : ∀ a, (cells a).length = k) : ∀ {L : List α} {q : Nat} {u : Value}, (L.flatMap cells)[q]? = some u → ∃ (i j : Nat) (a : α), q = i * k + j ∧ L[i]? = some a ∧ (cells a)[j]? = some u
  | [], _, _, h => by simp at h
  | b :: L, q, u, h => by
    rw [List.flatMap_cons] at h
    rcases Nat.lt_or_ge q (cells b).length with hlt | hge
    · rw [List.getElem?_append_left hlt] at h
      exact ⟨0, q, b, by omega, rfl, h⟩
    · rw [List.getElem?_append_right hge, hk] at h
      obtain ⟨i, j, a, e, h1, h2⟩ := flat_inv hk h
      rw [hk] at hge
      exact ⟨i + 1, j, a, by rw [Nat.add_mul]; omega, by simpa using h1, h2⟩
theorem addN (b off j : Nat) : (⟨b, off, none⟩ : Addr).add j = ⟨b, off + j, none⟩ := by unfold Addr.add; split <;> simp_all
/-- what is appended out of a slice -/
theorem sl_news {α : Type} {k : Nat} {cells : α → List Value} (hk : ∀ a, (cells a).length = k) {B : Nat} {w : World} {ad : Addr} {L : List α} (h : IsSl k cells B w (some ad) L) : ∀ (q : Nat) u, (L.flatMap cells)[q]? = some u → w.cell? (ad.add q) = some u := fun q u hu => by
  obtain ⟨i, j, a, rfl, ha, hj⟩ := flat_inv hk hu
  obtain ⟨b, off, e, _, hc⟩ := h (fun e => by rw [e] at ha; simp at ha)
  obtain rfl := Option.some.inj e
  rw [addN, ← Nat.add_assoc]
  exact hc i a ha j u hj
/-- a row of one's own is a slice -/
theorem own_sl {α : Type} {k : Nat} {cells : α → List Value} (hk : ∀ a, (cells a).length = k) {w : World} {base n : Nat} {T : TypeId} {v : Value} {L : List α} (h : w.ownsRow base T k v n (L.flatMap cells)) (hn : n = L.length) : ∃ a cap, v = .slice a L.length cap ∧ IsSl k cells w.heap.size w a L ∧ (a = none → L = [] ∧ cap = 0) := by
  subst hn
  rcases h.2 with ⟨rfl, h0⟩ | ⟨g, cap, cur, rfl, _, hg, _⟩
  · have : L = [] := List.eq_nil_of_length_eq_zero h0
    subst this
    exact ⟨none, 0, rfl, isSl_nil, fun _ => ⟨rfl, rfl⟩⟩
  · refine ⟨_, cap, rfl, fun _ => ⟨g, 0, rfl, lt_of_heap hg, fun i a ha j u hu => ?_⟩, fun h => by cases h⟩
    have := h.cells (g := g) rfl _ _ (flat_at hk ha hu)
    rw [addN, ← Nat.add_assoc] at this
    exact this
/-- the first so many of a row -/
theorem own_take {w : World} {base n g cap size : Nat} {T : TypeId} {xs : List Value} (h : w.ownsRow base T size (.slice (some ⟨g, 0, none⟩) n cap) n xs) {m : Nat} (hm : m ≤ n) : w.ownsRow base T size (.slice (some ⟨g, 0, none⟩) m cap) m (xs.take (m * size)) := by
  obtain ⟨h1, h2 | ⟨g', cap', cur, e, hb, hg, hnc, hcm, hcs, ht⟩⟩ := h
  · simp at h2
  · simp only [Value.slice.injEq, Option.some.injEq, Addr.mk.injEq, and_true, true_and] at e
    obtain ⟨rfl, rfl⟩ := e
    have hle : m * size ≤ n * size := Nat.mul_le_mul_right size hm
    refine ⟨by rw [List.length_take]; omega, .inr ⟨g, cap, cur, rfl, hb, hg, by omega, hcm, hcs, ?_⟩⟩
    rw [← ht, List.take_take, Nat.min_eq_left hle]
end Go.Proofs.YtkokdafkjjcgoaaGreatDoor

