/- An argument that is a slice, opened by its elements. -/
import Derived.Test.YtlomdlblohnfmaaDoorChecked
import Derived.Test.YtlomdlblohnfmaaDoorBase
import Derived.Deep.Slices
import Derived.ProofKit
import Derived.OpenShut
namespace Go.Proofs.YtlomdlblohnfmaaDoor
open Go.ChangeShapes Go.WideShapes Go.ChangeAt Go.RowKit Go.Deep

/-- a slice of elements of k cells each, below B -/
def IsSl {α : Type} (k : Nat) (cells : α → List Value) (B : Nat) (w : World) (a : Option Addr) (L : List α) : Prop :=
  L ≠ [] → ∃ b off, a = some ⟨b, off, none⟩ ∧ b < B ∧ ∀ (i : Nat) t, L[i]? = some t → ∀ (j : Nat) u, (cells t)[j]? = some u → w.cell? ⟨b, off + i * k + j, none⟩ = some u
theorem IsSl.below {α : Type} {k : Nat} {cells : α → List Value} {B B' : Nat} {w w' : World} {a : Option Addr} {L : List α} (h : IsSl k cells B w a L) (hb : Below B' w w') (hB : B ≤ B') : IsSl k cells B w' a L := fun hn => by
  obtain ⟨b, off, rfl, hlt, hc⟩ := h hn
  exact ⟨b, off, rfl, hlt, fun i t ht j u hu => by rw [hb.cell (show b < B' by omega)]; exact hc i t ht j u hu⟩
theorem IsSl.mono {α : Type} {k : Nat} {cells : α → List Value} {B B' : Nat} {w : World} {a : Option Addr} {L : List α} (h : IsSl k cells B w a L) (hB : B ≤ B') : IsSl k cells B' w a L := fun hn => by
  obtain ⟨b, off, rfl, hlt, hc⟩ := h hn
  exact ⟨b, off, rfl, by omega, hc⟩
theorem isSl_nil {α : Type} {k : Nat} {cells : α → List Value} {B : Nat} {w : World} {a : Option Addr} : IsSl k cells B w a [] := fun h => absurd rfl h

section
variable {H : Type} {enc : TypeId × Value → H} {w : World} {base : Nat} {spare : Nat → Bool} {held : Bool}
/-- a slice, opened by its elements: k cells each -/
theorem open_list {t e : TypeId} {k : Nat} (hk0 : 0 < k) (ht : Tryd.prog.underlying t = some (.slice e)) (hk : Tryd.prog.cellsOf e = k) {α : Type} (cells : α → List Value) (data : α → DataW H) (Ok : α → Prop)
    (hel : ∀ {n : Nat} {cs : List Value} {D : DataW H} {pl : List MemPlace}, DataW.trod enc Tryd.prog w base spare held n e cs = some (D, pl) → ∃ a, cs = cells a ∧ D = data a ∧ Ok a)
    {fuel : Nat} {v : Value} {x : DataW H × List MemPlace} (h : DataW.trod enc Tryd.prog w base spare held fuel t [v] = some x) :
    ∃ (a : Option Addr) (cap : Nat) (L : List α), v = .slice a L.length cap ∧ L.length ≤ cap ∧ cap ≤ maxLen ∧ (a = none → L = [] ∧ cap = 0) ∧ ((x.1 = .nil ∧ L = []) ∨ ∃ rest, x.1 = .slice (L.map data) rest) ∧ IsSl k cells w.heap.size w a L ∧ ∀ t ∈ L, Ok t := by
  rcases open_slice ht h with ⟨hv, hx⟩ | ⟨a, len, cap, m, n, D, Pl, hv, _, hl, hcm, hm, hx, hi⟩
  · exact ⟨none, 0, [], by simpa using hv, Nat.zero_le _, Nat.zero_le _, fun _ => ⟨rfl, rfl⟩, .inl ⟨by rw [hx], rfl⟩, isSl_nil, fun t ht => by cases ht⟩
  · have hlm : len ≤ m := by rw [hm]; split <;> omega
    have hD : ∀ i, i < len → ∃ t : α, D i = data t ∧ Ok t ∧ (cells t).length = k ∧ ∀ j, j < k → w.cell? ((a.add (i * k)).add j) = (cells t)[j]? := fun i hlt => by
      obtain ⟨cs', hc, ht⟩ := hi i (by omega)
      obtain ⟨t, rfl, hd, hok⟩ := hel ht
      rw [hk] at hc
      exact ⟨t, hd, hok, (World.cells?_some hc).2⟩
    have key : ∀ q, q ≤ len → ∃ L : List α, L.length = q ∧ (List.range q).map D = L.map data ∧ ∀ (i : Nat) t, L[i]? = some t → Ok t ∧ (cells t).length = k ∧ ∀ j, j < k → w.cell? ((a.add (i * k)).add j) = (cells t)[j]? := by
      intro q
      induction q with
      | zero => intro _; exact ⟨[], rfl, rfl, fun i t hi => by simp at hi⟩
      | succ q ih =>
        intro hq
        obtain ⟨L, hL, hm', hc⟩ := ih (by omega)
        obtain ⟨t, hd, hok, hcell⟩ := hD q (by omega)
        refine ⟨L ++ [t], by simp [hL], by rw [List.range_succ, List.map_append, List.map_append, hm']; simp [hd], fun i u hu => ?_⟩
        rcases Nat.lt_or_ge i L.length with h' | h'
        · rw [List.getElem?_append_left h'] at hu; exact hc i u hu
        · rw [List.getElem?_append_right h'] at hu
          have hi0 : i - L.length = 0 := by
            rcases Nat.eq_zero_or_pos (i - L.length) with h0 | h0
            · exact h0
            · rw [List.getElem?_eq_none (by simp; omega)] at hu; cases hu
          rw [hi0] at hu
          obtain rfl := Option.some.inj hu
          obtain rfl : i = q := by omega
          exact ⟨hok, hcell⟩
    obtain ⟨L, hL, hm', hc⟩ := key len (Nat.le_refl _)
    subst hL
    refine ⟨some a, cap, L, by simpa using hv, hl, hcm, (fun h => by cases h), .inr ⟨_, by rw [hx, hm']⟩, fun hne => ?_, fun t ht => ?_⟩
    · obtain ⟨b, off, sp⟩ := a
      have h0 : 0 < L.length := List.length_pos_iff.2 hne
      have hsp : sp = none := by
        obtain ⟨_, hlk, hat⟩ := hc 0 _ (List.getElem?_eq_getElem h0)
        have h := hat 0 hk0
        rw [List.getElem?_eq_getElem (by omega)] at h
        simp only [Nat.zero_mul, Addr.add, if_true, World.cell?] at h
        cases sp with
        | none => rfl
        | some z =>
          exfalso
          simp at h
          split at h <;> simp at h
      subst hsp
      have hadd : ∀ i j, (((⟨b, off, none⟩ : Addr).add i).add j) = ⟨b, off + i + j, none⟩ := by
        intro i j
        unfold Addr.add
        split <;> split <;> simp_all
      have hall : ∀ (i : Nat) t, L[i]? = some t → ∀ (j : Nat) u, (cells t)[j]? = some u → w.cell? ⟨b, off + i * k + j, none⟩ = some u := fun i t ht j u hu => by
        obtain ⟨_, hlk, hat⟩ := hc i t ht
        have hj : j < k := by obtain ⟨h1, _⟩ := List.getElem?_eq_some_iff.1 hu; omega
        have := hat j hj
        rw [hadd] at this
        rw [this, hu]
      refine ⟨b, off, rfl, ?_, hall⟩
      obtain ⟨_, hlk, _⟩ := hc 0 _ (List.getElem?_eq_getElem h0)
      exact World.block_lt_of_cell? w _ (hall 0 _ (List.getElem?_eq_getElem h0) 0 _ (List.getElem?_eq_getElem (by omega)))
    · obtain ⟨i, hi, rfl⟩ := List.getElem_of_mem ht
      exact (hc i _ (List.getElem?_eq_getElem hi)).1
end
end Go.Proofs.YtlomdlblohnfmaaDoor

