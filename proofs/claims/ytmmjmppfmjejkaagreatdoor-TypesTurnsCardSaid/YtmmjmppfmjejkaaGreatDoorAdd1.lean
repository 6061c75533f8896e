/- Whether a type is an object's; the first place that fits: the program. -/
import Derived.Test.YtmmjmppfmjejkaaGreatDoorKnR
namespace Go.Proofs.YtmmjmppfmjejkaaGreatDoor
open Go.RowKit Go.Maps

set_option maxHeartbeats 1000000 in
theorem object_ok (t : Ty) (hr : Right t) (w : World) : Calls Tryz.prog 81 #[.string (tyB t)] w fun e w' => e = .returned (.bool (objectT t)) ∧ w' = w := by
  have hv := one_is hr 118
  have h0 := (tyB_head t).1
  have hf : ((((tyB t)[0]'h0).toNat : Int) == 102) = isFnT t := head_fn' hr
  have ho : objectT t = (!isC 118 t && !isFnT t) := by rw [objectT, isVoid_is]
  generalize tyB t = s at *
  rcases h1 : isC 118 t with _ | _
  · rw [h1] at hv ho
    have hv' : (s.toList != [118]) = true := by rw [bne, hv]; rfl
    rcases h2 : isFnT t with _ | _
    · rw [h2] at hf ho
      have hf' : ((s[0].toNat : Int) != 102) = true := by rw [bne, hf]; rfl
      have hfin := Lib.hid ho
      clear ho h1 h2
      go_enter Tryz.func81, Tryz.ntmps81
      go_wp2_with fail
      go_ret
      exact ⟨by rw [hfin.out]; rfl, rfl⟩
    · rw [h2] at hf ho
      have hf' : ((s[0].toNat : Int) != 102) = false := by rw [bne, hf]; rfl
      have hfin := Lib.hid ho
      clear ho h1 h2
      go_enter Tryz.func81, Tryz.ntmps81
      go_wp2_with fail
      go_ret
      exact ⟨by rw [hfin.out]; rfl, rfl⟩
  · rw [h1] at hv ho
    have hv' : (s.toList != [118]) = false := by rw [bne, hv]; rfl
    have hfin := Lib.hid ho
    clear ho h1 hf
    go_enter Tryz.func81, Tryz.ntmps81
    go_wp2_with fail
    go_ret
    exact ⟨by rw [hfin.out]; rfl, rfl⟩

set_option maxHeartbeats 1000000 in
theorem fit_ok (n a : Nat) (hn : n ≤ 8388608) (h1 : 1 ≤ a) (h4 : a ≤ 4) (w : World) : Calls Tryz.prog 84 #[.int .i64 (n : Int), .int .i64 (a : Int)] w fun e w' => e = .returned (.int .i64 (fitN n a : Nat)) ∧ w' = w := by
  have hfin := Lib.hid (show fitN n a = (n + a - 1) / a * a from rfl)
  have hb := fit_bd n a h1 h4
  have : a = 1 ∨ a = 2 ∨ a = 3 ∨ a = 4 := by omega
  generalize fitN n a = r at *
  rcases this with rfl | rfl | rfl | rfl
  all_goals
    go_enter Tryz.func84, Tryz.ntmps84
    go_wp2_with fail
    go_ret
    refine ⟨ret_i64 ?_, rfl⟩
    have := hfin.out
    omega

end Go.Proofs.YtmmjmppfmjejkaaGreatDoor
