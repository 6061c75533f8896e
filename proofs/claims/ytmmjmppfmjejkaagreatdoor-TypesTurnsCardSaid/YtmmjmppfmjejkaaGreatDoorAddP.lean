/- One more struct: the plain laws behind it. -/
import Derived.Test.YtmmjmppfmjejkaaGreatDoorMapW
namespace Go.Proofs.YtmmjmppfmjejkaaGreatDoor
open Go.RowKit Go.Maps

theorem findK_snoc (K : List Kn) (k : Kn) (s : List UInt8) : findK (K ++ [k]) s = (findK K s).or (if s = k.name.data.toList then some K.length else none) := by
  unfold findK
  rw [List.findIdx?_append]
  congr 1
  by_cases h : s = k.name.data.toList
  · simp [List.findIdx?_cons, h]
  · have h' : ¬ k.name.data.toList = s := fun e => h e.symm
    simp [List.findIdx?_cons, h, h']
theorem lookV_snoc (K : List Kn) (k : Kn) (hno : (findK K k.name.data.toList).isSome = false) (s : List UInt8) :
    lookV (K ++ [k]) s = if s = k.name.data.toList then ((K.length : Int), true) else lookV K s := by
  unfold lookV
  rw [findK_snoc]
  by_cases h : s = k.name.data.toList
  · subst h
    have : findK K k.name.data.toList = none := by simpa using hno
    rw [this, if_pos rfl]
    simp
  · rw [if_neg h, if_neg h]
    cases findK K s <;> rfl
theorem lookV_two (K : List Kn) (s : List UInt8) : (lookV K s).2 = (findK K s).isSome := by
  unfold lookV
  cases findK K s <;> rfl

theorem meas_al {K : List Kn} (hF : FitK K) : ∀ t : Ty, 1 ≤ (measT K t).2 ∧ (measT K t).2 ≤ 4
  | .base c => by
    rw [measT]
    split
    · exact ⟨Nat.le_refl _, by decide⟩
    · split
      · exact ⟨by decide, by decide⟩
      · split <;> exact ⟨by decide, by decide⟩
  | .ptr _ => by rw [measT]; exact ⟨by decide, by decide⟩
  | .fn _ _ => by rw [measT]; exact ⟨by decide, by decide⟩
  | .arr n t => by rw [measT]; exact meas_al hF t
  | .str s => by
    rw [measT]
    split
    · rename_i k hk
      obtain ⟨i, _, hi⟩ := Option.bind_eq_some_iff.1 hk
      exact (hF.2 k (List.mem_of_getElem? hi)).2
    · exact ⟨by decide, by decide⟩
theorem checkT_zero {K : List Kn} {t : Ty} (h : checkT K t = 0) : shapeT t = true ∧ thereT K t = true ∧ sizedT K t = true := by
  unfold checkT at h
  split at h
  · simp at h
  · split at h
    · simp at h
    · split at h
      · simp at h
      · split at h
        · simp at h
        · simp_all
theorem meas_bd {K : List Kn} (hF : FitK K) : ∀ t : Ty, checkT K t = 0 → (measT K t).1 ≤ 65536
  | .base c, _ => by
    rw [measT]
    split
    · decide
    · split
      · decide
      · split <;> decide
  | .ptr _, _ => by rw [measT]; decide
  | .fn _ _, _ => by rw [measT]; decide
  | .arr n t, h => by
    obtain ⟨_, h2, h3⟩ := checkT_zero h
    rw [sizedT, Bool.and_eq_true, Bool.or_eq_true] at h3
    rw [thereT] at h2
    rw [measT]
    rcases h3.2 with h4 | h4
    · rw [h2] at h4; simp at h4
    · exact of_decide_eq_true h4
  | .str s, _ => by
    rw [measT]
    split
    · rename_i k hk
      obtain ⟨i, _, hi⟩ := Option.bind_eq_some_iff.1 hk
      exact (hF.2 k (List.mem_of_getElem? hi)).1
    · decide
theorem capM_id {p : Nat × Nat} (h : p.1 ≤ 65536) : capM p = p := by
  obtain ⟨a, b⟩ := p
  simp only [capM, Prod.mk.injEq, and_true]
  simp only at h
  omega

/-- the first place from n on that fits, as the program reckons it -/
theorem fit_bd (n a : Nat) (h1 : 1 ≤ a) (h4 : a ≤ 4) : n ≤ fitN n a ∧ fitN n a ≤ n + 3 := by
  unfold fitN
  have : a = 1 ∨ a = 2 ∨ a = 3 ∨ a = 4 := by omega
  rcases this with rfl | rfl | rfl | rfl <;> omega
theorem fit_int (n a : Nat) (h1 : 1 ≤ a) (h4 : a ≤ 4) : Int.tdiv ((n : Int) + a - 1) a * a = (fitN n a : Nat) := by
  have e : ((n : Int) + a - 1) = ((n + a - 1 : Nat) : Int) := by omega
  rw [e]
  unfold fitN
  rw [Int.natCast_mul, Int.natCast_ediv]
  rfl

/-- how the names that were seen stand in their map -/
def seenV (seen : List ByteArray) (t : List UInt8) : Int × Bool := if Lib.containsS seen ⟨t.toArray⟩ = true then (1, true) else (0, false)
theorem seen_step (seen : List ByteArray) (m : ByteArray) (t : List UInt8) : (if t = m.data.toList then ((1 : Int), true) else seenV seen t) = seenV (seen ++ [m]) t := by
  unfold seenV
  by_cases h : t = m.data.toList
  · subst h
    rw [if_pos rfl, if_pos]
    rw [Lib.containsS_iff]
    simp
  · rw [if_neg h]
    have : Lib.containsS (seen ++ [m]) ⟨t.toArray⟩ = Lib.containsS seen ⟨t.toArray⟩ := by
      rw [Bool.eq_iff_iff, Lib.containsS_iff, Lib.containsS_iff, List.mem_append]
      constructor
      · rintro (h1 | h1)
        · exact h1
        · rw [List.mem_singleton] at h1
          exact absurd (by rw [← h1]) h
      · exact .inl
    rw [this]
theorem seen_at (seen : List ByteArray) (m : ByteArray) : (seenV seen m.data.toList).1 = if Lib.containsS seen m = true then 1 else 0 := by
  unfold seenV
  rw [show (⟨m.data.toList.toArray⟩ : ByteArray) = m by simp]
  split <;> rfl
theorem seen_nil (t : List UInt8) : seenV [] t = (0, false) := by
  unfold seenV
  rw [if_neg]
  rw [Lib.containsS_iff]
  simp

theorem addK_bd {K : List Kn} {x : Sr} {k : Kn} (h : addK K x = .inr k) : k.toSr = x ∧ (findK K x.name.data.toList).isSome = false ∧ k.size ≤ 65536 := by
  unfold addK at h
  split at h
  · cases h
  · split at h
    · cases h
    · rename_i h2
      split at h
      · cases h
      · split at h
        · cases h
        · split at h
          · cases h
          · split at h
            · cases h
            · obtain rfl := Sum.inr.inj h
              exact ⟨rfl, by simpa using h2, by simp only; omega⟩

end Go.Proofs.YtmmjmppfmjejkaaGreatDoor
