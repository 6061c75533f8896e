/- Depths. Plain: nothing of the program. -/
import Derived.Test.YtkokdafkjjcgoaaGreatDoorBegM
namespace Go.Proofs.YtkokdafkjjcgoaaGreatDoor

theorem fold_max : ∀ (l : List Nat) (a : Nat), l.foldl max a = max a (l.foldl max 0)
  | [], a => by simp
  | x :: l, a => by
    rw [List.foldl_cons, List.foldl_cons, fold_max l (max a x), fold_max l (max 0 x)]
    omega
theorem fold_rev (l : List Nat) : l.reverse.foldl max 0 = l.foldl max 0 := by
  induction l with
  | nil => rfl
  | cons x l ih =>
    rw [List.reverse_cons, List.foldl_append, ih]
    simp only [List.foldl_cons, List.foldl_nil]
    rw [fold_max l (max 0 x)]
    omega
theorem fold_le {l : List Nat} {B : Nat} (h : ∀ d ∈ l, d ≤ B) : l.foldl max 0 ≤ B := by
  induction l with
  | nil => simp
  | cons x l ih =>
    rw [List.foldl_cons, fold_max l (max 0 x)]
    have := ih (fun d hd => h d (List.mem_cons_of_mem _ hd))
    have := h x List.mem_cons_self
    omega
/-- what is so of depths at the i-th node: ds the depths that wait, the last one first -/
structure DeepAt (t : List Nd) (i : Nat) (ds : List Nat) : Prop where
  rest : deepN t = (deepF (t.drop i) ds).getD 0 0
  goes : ∃ st f s, st.length = ds.length ∧ beginsF (t.drop i) i st = some (f, [s])
  le : ∀ d ∈ ds, d ≤ i
theorem DeepAt.start {t : List Nd} {fr : List Nat} (h : beginsN t = some fr) : DeepAt t 0 [] := by
  unfold beginsN at h
  split at h
  · rename_i f s hb
    exact ⟨by rw [List.drop_zero]; rfl, ⟨[], f, s, rfl, by rw [List.drop_zero]; exact hb⟩, fun d hd => by cases hd⟩
  · cases h
theorem DeepAt.step {t : List Nd} {i : Nat} {ds : List Nat} (h : DeepAt t i ds) (hi : i < t.length) : 0 ≤ t[i].n ∧ t[i].n.toNat ≤ ds.length ∧ DeepAt t (i + 1) (((ds.take t[i].n.toNat).foldl max 0 + 1) :: ds.drop t[i].n.toNat) := by
  obtain ⟨hr, ⟨st, f, s, hl, hg⟩, hle⟩ := h
  rw [List.drop_eq_getElem_cons hi] at hr hg
  rw [beginsF] at hg
  split at hg
  · cases hg
  · rename_i hn
    simp only [Option.map_eq_some_iff] at hg
    obtain ⟨⟨g, st2⟩, hg, e⟩ := hg
    obtain ⟨_, rfl⟩ := Prod.mk.inj e
    refine ⟨by omega, by omega, ⟨by rw [hr, deepF], ⟨_, g, s, ?_, hg⟩, fun d hd => ?_⟩⟩
    · simp [hl]
    · rcases List.mem_cons.1 hd with rfl | hd
      · have := fold_le (fun d hd => hle d (List.mem_of_mem_take hd)) (l := ds.take t[i].n.toNat)
        omega
      · have := hle d (List.mem_of_mem_drop hd); omega
theorem DeepAt.done {t : List Nd} {ds : List Nat} (h : DeepAt t t.length ds) : ∃ d, ds = [d] ∧ deepN t = d := by
  obtain ⟨hr, ⟨st, f, s, hl, hg⟩, hle⟩ := h
  rw [List.drop_length] at hr hg
  rw [beginsF] at hg
  obtain ⟨_, rfl⟩ := Prod.mk.inj (Option.some.inj hg)
  obtain ⟨d, rfl⟩ := List.length_eq_one_iff.1 (show ds.length = 1 by rw [← hl]; rfl)
  exact ⟨d, rfl, by rw [hr, deepF]; rfl⟩
end Go.Proofs.YtkokdafkjjcgoaaGreatDoor

