/- What a pointer, an array, a function is made of is told by Elem and Sign: the plain laws. -/
import Derived.Test.YtmmjmppfmjejkaaDoorFuncM
import Derived.Test.YtmmjmppfmjejkaaDoorWorks
namespace Go.Proofs.YtmmjmppfmjejkaaDoor
open Go.RowKit

/-- three digits, as the statement writes them; without the noughts ahead -/
def dig3 (m : Nat) : List UInt8 := [UInt8.ofNat (48 + m / 100), UInt8.ofNat (48 + m / 10 % 10), UInt8.ofNat (48 + m % 10)]
def trimD : List UInt8 → List UInt8
  | [] => []
  | [c] => [c]
  | c :: d :: l => if c = 48 then trimD (d :: l) else c :: d :: l
theorem dec_all : ((List.range 1000).all fun m => decide (trimD (dig3 m) = Lib.decDigits m) && decide ((Lib.decDigits m).length ≤ 3)) = true := by kernel_rfl
theorem dec_trim {m : Nat} (h : m < 1000) : trimD (dig3 m) = Lib.decDigits m := by
  have := List.all_eq_true.1 dec_all m (List.mem_range.2 h)
  rw [Bool.and_eq_true] at this
  exact of_decide_eq_true this.1
theorem dec_three {m : Nat} (h : m < 1000) : (Lib.decDigits m).length ≤ 3 := by
  have := List.all_eq_true.1 dec_all m (List.mem_range.2 h)
  rw [Bool.and_eq_true] at this
  exact of_decide_eq_true this.2
theorem apart_ptr {s : ByteArray} {T : Ty} (h : tyS s = some T) (hs : s.size < 65528) : tyS (⟨#[112]⟩ ++ s) = some (.ptr T) := by
  obtain ⟨rfl, hr, hl⟩ := tyS_some.1 h
  rw [tyB_size] at hs
  rw [tyB_ptr]
  exact tyS_some.2 ⟨rfl, hr, by rw [code]; simp; omega⟩
theorem apart_arr {s : ByteArray} {T : Ty} {m : Nat} (h : tyS s = some T) (hs : s.size < 65528) (hm : m < 1000) : tyS (⟨#[97]⟩ ++ ⟨(Lib.decDigits m).toArray⟩ ++ ⟨#[58]⟩ ++ s) = some (.arr m T) := by
  obtain ⟨rfl, hr, hl⟩ := tyS_some.1 h
  rw [tyB_size] at hs
  have e : (⟨#[97]⟩ ++ ⟨(Lib.decDigits m).toArray⟩ ++ ⟨#[58]⟩ ++ tyB T : ByteArray) = tyB (.arr m T) := tyB_eq (by
    rw [code]
    simp [tyB_list])
  have hd : (Lib.decDigits m).length ≤ 3 := dec_three hm
  rw [e]
  exact tyS_some.2 ⟨rfl, ⟨by omega, hr⟩, by rw [code]; simp; omega⟩

theorem codes_join : ∀ ps : List Ty, codes ps = Lib.join (ps.map code) [44]
  | [] => rfl
  | t :: l => by
    have h : ∀ l : List Ty, codes' l = Lib.joinTail [44] (l.map code) := fun l => by
      induction l with
      | nil => rfl
      | cons u l ih =>
        rw [codes', ih]
        simp [Lib.joinTail]
    rw [codes, List.map_cons, Lib.join_cons, h]
theorem all_types : ∀ {xs : List ByteArray}, badL xs = false → ∃ ps : List Ty, xs = ps.map tyB ∧ Rights ps
  | [], _ => ⟨[], rfl, trivial⟩
  | x :: l, h => by
    unfold badL at h
    rw [List.any_cons, Bool.or_eq_false_iff] at h
    obtain ⟨t, ht⟩ : ∃ t, tyS x = some t := by
      have := h.1
      simp only [Bool.not_eq_false', Option.isSome_iff_exists] at this
      exact this
    obtain ⟨rfl, hr, _⟩ := tyS_some.1 ht
    obtain ⟨ps, rfl, hps⟩ := all_types (xs := l) h.2
    exact ⟨t :: ps, rfl, hr, hps⟩
theorem func_yes {r x : ByteArray} {xs : List ByteArray} (h : funcR r xs = (x, 0)) : ∃ ps T, r = tyB T ∧ xs = ps.map tyB ∧ tyS x = some (.fn ps T) := by
  unfold funcR at h
  split at h
  · simp at h
  · rename_i h1
    split at h
    · simp at h
    · split at h
      · simp at h
      · rename_i h3
        simp only [Prod.mk.injEq, and_true] at h
        have hr : (tyS r).isSome = true := by
          rcases hh : (tyS r).isSome with _ | _
          · exact absurd (.inl hh) h1
          · rfl
        have hb : badL xs = false := by
          rcases hh : badL xs with _ | _
          · rfl
          · exact absurd (.inr hh) h1
        obtain ⟨T, hT⟩ := Option.isSome_iff_exists.1 hr
        obtain ⟨ps, rfl, hps⟩ := all_types hb
        obtain ⟨rfl, hrT, _⟩ := tyS_some.1 hT
        have e : funcO (tyB T) (ps.map tyB) = tyB (.fn ps T) := tyB_eq (by
          have h1 : (ps.map tyB).map (·.data.toList) = ps.map code := by
            rw [List.map_map]
            exact List.map_congr_left fun p _ => tyB_list p
          unfold funcO
          rw [code, codes_join, h1]
          simp [tyB_list])
        rw [e] at h h3
        subst h
        rw [tyB_size] at h3
        exact ⟨ps, T, rfl, rfl, tyS_some.2 ⟨rfl, ⟨hps, hrT⟩, by omega⟩⟩
theorem func_no {r : ByteArray} {xs : List ByteArray} (h : (funcR r xs).2 ≠ 0) : (funcR r xs).1 = ⟨#[]⟩ := by
  unfold funcR at *
  split
  · rfl
  · rename_i h1
    rw [if_neg h1] at h
    split
    · rfl
    · rename_i h2
      rw [if_neg h2] at h
      split
      · rfl
      · rename_i h3
        rw [if_neg h3] at h
        simp at h
theorem own_tys {w : World} {B n : Nat} {T : TypeId} {v : Value} {xs : List ByteArray} (h : w.ownsRow B T 1 v n (xs.map .string)) (hn : n = xs.length) : ∃ a cap, v = .slice a xs.length cap ∧ IsTys w.heap.size w a xs := by
  obtain ⟨a, cap, rfl, hc⟩ := strs_own h hn
  subst hn
  exact ⟨a, cap, rfl, ⟨fun hne => (by obtain ⟨g, rfl, hg, _, hcell⟩ := hc hne; exact ⟨g, 0, rfl, hg, hcell⟩)⟩⟩
end Go.Proofs.YtmmjmppfmjejkaaDoor
