/- Sizes, cut at a bound: the reference's reckoning against the plain one. Plain: nothing of the program. -/
import Derived.Test.YtmmjmppfmjejkaaGreatDoorTySem
namespace Go.Proofs.YtmmjmppfmjejkaaGreatDoor

theorem fit_ge (x a : Nat) (h : 0 < a) : x ≤ fitN x a := by
  unfold fitN
  have h1 := Nat.div_add_mod (x + a - 1) a
  have h2 := Nat.mod_lt (x + a - 1) h
  rw [Nat.mul_comm] at h1
  omega
theorem fit_lt (x a : Nat) (h : 0 < a) : fitN x a < x + a := by
  unfold fitN
  have h1 := Nat.div_mul_le_self (x + a - 1) a
  omega
theorem fit_mono {x y a : Nat} (h : x ≤ y) : fitN x a ≤ fitN y a := by
  unfold fitN
  exact Nat.mul_le_mul_right a (Nat.div_le_div_right (by omega))
/-- a sum that is cut at a bound, step by step, is the sum, cut -/
theorem cut_fit {c x b a M : Nat} (h : c = min x M) (ha : 0 < a) : min (fitN c a + min b M) M = min (fitN x a + b) M := by
  subst h
  rcases Nat.le_total x M with hx | hx
  · rw [Nat.min_eq_left hx]
    omega
  · rw [Nat.min_eq_right hx]
    have h1 := fit_ge M a ha
    have h2 := fit_mono (a := a) hx
    omega
theorem cut_fit0 {c x a M : Nat} (h : c = min x M) (ha : 0 < a) : min (fitN c a) M = min (fitN x a) M := by
  have := cut_fit (b := 0) h ha
  simpa using this
theorem cut_mul {n b M : Nat} (_h : 0 < M) : min (n * min b M) M = min (n * b) M := by
  rcases Nat.le_total b M with hx | hx
  · rw [Nat.min_eq_left hx]
  · rw [Nat.min_eq_right hx]
    rcases Nat.eq_zero_or_pos n with rfl | hn
    · simp
    · have h1 : M ≤ n * M := Nat.le_mul_of_pos_left M hn
      have h2 : n * M ≤ n * b := Nat.mul_le_mul_left n hx
      omega

end Go.Proofs.YtmmjmppfmjejkaaGreatDoor
