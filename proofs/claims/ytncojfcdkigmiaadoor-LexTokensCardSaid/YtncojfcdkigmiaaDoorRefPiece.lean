/- Pieces of what stands in quotes: the reference. (Printed by wip/tools/gen-refpiece.py.) -/
import Derived.Test.YtncojfcdkigmiaaDoorPiece3
namespace Go.Proofs.YtncojfcdkigmiaaDoor
open Go.RowKit

/-- what the reference tells of a piece -/
def RefPieced (k : Nat) (r : Option (UInt8 × Nat)) (w : World) (e : Ending) (w' : World) : Prop :=
  (match r with
    | some (c, m) => e = .returned (.tuple #[.int .u8 (c.toNat : Int), .int .i64 ((k + m : Nat) : Int), .int .i64 0])
    | none => e = .returned (.tuple #[.int .u8 0, .int .i64 0, .int .i64 72])) ∧ ∃ n, w' = w.drewN n
theorem refPieced_yes {w w' : World} {k m : Nat} {r : Option (UInt8 × Nat)} {c : UInt8} {n j : Int} (hr : r = some (c, m)) (hn : n = (c.toNat : Int)) (hj : j = ((k + m : Nat) : Int)) (hw : ∃ n, w' = w.drewN n) :
    RefPieced k r w (.returned (.tuple #[.int .u8 n, .int .i64 j, .int .i64 0])) w' := by subst hr hn hj; exact ⟨rfl, hw⟩
theorem refPieced_no {w w' : World} {k : Nat} {r : Option (UInt8 × Nat)} (hr : r = none) (hw : ∃ n, w' = w.drewN n) : RefPieced k r w (.returned (.tuple #[.int .u8 0, .int .i64 0, .int .i64 72])) w' := by subst hr; exact ⟨rfl, hw⟩

set_option maxHeartbeats 2000000 in
theorem refPiece_low (k : Nat) (s : ByteArray) (q : Int) (w : World) (hk : k < s.size) (_hs : s.size ≤ 1048576)  (hl : s[k].toNat < 32 ∨ 126 < s[k].toNat) :
    Calls Tryd.prog 70 #[.string s, .int .i64 k, .int .u8 q] w (RefPieced k (pieceL (sfx s k)) w) := by
  have hfin := Lib.hid (pieceL_low hk hl)
  have t2 : ((s[k].toNat : Int) != 92) = true := by simp; omega
  have hl2 : (s[k].toNat : Int) < 32 ∨ (32 ≤ (s[k].toNat : Int) ∧ (126 : Int) < s[k].toNat) := by omega
  clear hl
  rcases hl2 with t3 | ⟨t3, t4⟩
  all_goals
    go_enter Tryd.func70, Tryd.ntmps70
    go_wp2_with fail
    go_ret3
    exact refPieced_no hfin.out ⟨0, rfl⟩

set_option maxHeartbeats 2000000 in
theorem refPiece_plain (k : Nat) (s : ByteArray) (q : Int) (w : World) (hk : k < s.size) (hs : s.size ≤ 1048576)  (hl : ¬ (s[k].toNat < 32 ∨ 126 < s[k].toNat)) (h92 : s[k].toNat ≠ 92) :
    Calls Tryd.prog 70 #[.string s, .int .i64 k, .int .u8 q] w (RefPieced k (pieceL (sfx s k)) w) := by
  have hfin := Lib.hid (pieceL_plain hk hl h92)
  have t2 : ((s[k].toNat : Int) != 92) = true := by simp; omega
  have t3 : (32 : Int) ≤ s[k].toNat := by omega
  have t4 : (s[k].toNat : Int) ≤ 126 := by omega
  clear hl h92
  go_enter Tryd.func70, Tryd.ntmps70
  go_wp2_with fail
  go_ret3
  exact refPieced_yes hfin.out rfl (by omega) ⟨0, rfl⟩

set_option maxHeartbeats 2000000 in
theorem refPiece_cut (k : Nat) (s : ByteArray) (q : Int) (w : World) (hk : k < s.size) (hs : s.size ≤ 1048576)  (h92 : s[k].toNat = 92) (hc : s.size ≤ k + 1) :
    Calls Tryd.prog 70 #[.string s, .int .i64 k, .int .u8 q] w (RefPieced k (pieceL (sfx s k)) w) := by
  have hfin := Lib.hid (pieceL_cut hk h92 hc)
  have t2 : ((s[k].toNat : Int) != 92) = false := by simp; omega
  have t3 : (s.size : Int) ≤ (k : Int) + 1 := by omega
  clear h92 hc
  go_enter Tryd.func70, Tryd.ntmps70
  go_wp2_with fail
  go_ret3
  exact refPieced_no hfin.out ⟨0, rfl⟩

set_option maxHeartbeats 2000000 in
theorem refPiece_esc110 (k : Nat) (s : ByteArray) (q : Int) (w : World) (hk : k < s.size) (hs : s.size ≤ 1048576) (h92 : s[k].toNat = 92) (hc : k + 1 < s.size) (hd : s[k + 1].toNat = 110) :
    Calls Tryd.prog 70 #[.string s, .int .i64 k, .int .u8 q] w (RefPieced k (pieceL (sfx s k)) w) := by
  have hfin := Lib.hid (show pieceL (sfx s k) = some (10, 2) by rw [pieceL_esc hk h92 hc]; exact if_pos hd)
  have t2 : ((s[k].toNat : Int) != 92) = false := by simp; omega
  have u110 : ((s[k + 1].toNat : Int) == 110) = true := by simp [hd]
  have t3 : (k : Int) + 1 < s.size := by omega
  have e1 : ((k : Int) + 1).toNat = k + 1 := by omega
  have p1 : 0 ≤ (k : Int) + 1 := by omega
  clear h92 hd
  go_enter Tryd.func70, Tryd.ntmps70
  go_wp2_with fail
  go_ret3
  exact refPieced_yes hfin.out rfl (by omega) ⟨0, rfl⟩

set_option maxHeartbeats 2000000 in
theorem refPiece_esc116 (k : Nat) (s : ByteArray) (q : Int) (w : World) (hk : k < s.size) (hs : s.size ≤ 1048576) (h92 : s[k].toNat = 92) (hc : k + 1 < s.size) (hd : s[k + 1].toNat = 116) :
    Calls Tryd.prog 70 #[.string s, .int .i64 k, .int .u8 q] w (RefPieced k (pieceL (sfx s k)) w) := by
  have hfin := Lib.hid (show pieceL (sfx s k) = some (9, 2) by rw [pieceL_esc hk h92 hc]; exact (if_neg (by omega)).trans (if_pos hd))
  have t2 : ((s[k].toNat : Int) != 92) = false := by simp; omega
  have u110 : ((s[k + 1].toNat : Int) == 110) = false := by simp; omega
  have u116 : ((s[k + 1].toNat : Int) == 116) = true := by simp [hd]
  have t3 : (k : Int) + 1 < s.size := by omega
  have e1 : ((k : Int) + 1).toNat = k + 1 := by omega
  have p1 : 0 ≤ (k : Int) + 1 := by omega
  clear h92 hd
  go_enter Tryd.func70, Tryd.ntmps70
  go_wp2_with fail
  go_ret3
  exact refPieced_yes hfin.out rfl (by omega) ⟨0, rfl⟩

set_option maxHeartbeats 2000000 in
theorem refPiece_esc114 (k : Nat) (s : ByteArray) (q : Int) (w : World) (hk : k < s.size) (hs : s.size ≤ 1048576) (h92 : s[k].toNat = 92) (hc : k + 1 < s.size) (hd : s[k + 1].toNat = 114) :
    Calls Tryd.prog 70 #[.string s, .int .i64 k, .int .u8 q] w (RefPieced k (pieceL (sfx s k)) w) := by
  have hfin := Lib.hid (show pieceL (sfx s k) = some (13, 2) by rw [pieceL_esc hk h92 hc]; exact (if_neg (by omega)).trans ((if_neg (by omega)).trans (if_pos hd)))
  have t2 : ((s[k].toNat : Int) != 92) = false := by simp; omega
  have u110 : ((s[k + 1].toNat : Int) == 110) = false := by simp; omega
  have u116 : ((s[k + 1].toNat : Int) == 116) = false := by simp; omega
  have u114 : ((s[k + 1].toNat : Int) == 114) = true := by simp [hd]
  have t3 : (k : Int) + 1 < s.size := by omega
  have e1 : ((k : Int) + 1).toNat = k + 1 := by omega
  have p1 : 0 ≤ (k : Int) + 1 := by omega
  clear h92 hd
  go_enter Tryd.func70, Tryd.ntmps70
  go_wp2_with fail
  go_ret3
  exact refPieced_yes hfin.out rfl (by omega) ⟨0, rfl⟩

set_option maxHeartbeats 2000000 in
theorem refPiece_esc92 (k : Nat) (s : ByteArray) (q : Int) (w : World) (hk : k < s.size) (hs : s.size ≤ 1048576) (h92 : s[k].toNat = 92) (hc : k + 1 < s.size) (hd : s[k + 1].toNat = 92) :
    Calls Tryd.prog 70 #[.string s, .int .i64 k, .int .u8 q] w (RefPieced k (pieceL (sfx s k)) w) := by
  have hfin := Lib.hid (show pieceL (sfx s k) = some (s[k + 1], 2) by rw [pieceL_esc hk h92 hc]; exact (if_neg (by omega)).trans ((if_neg (by omega)).trans ((if_neg (by omega)).trans ((if_neg (by omega)).trans (if_pos (by omega))))))
  have t2 : ((s[k].toNat : Int) != 92) = false := by simp; omega
  have u110 : ((s[k + 1].toNat : Int) == 110) = false := by simp; omega
  have u116 : ((s[k + 1].toNat : Int) == 116) = false := by simp; omega
  have u114 : ((s[k + 1].toNat : Int) == 114) = false := by simp; omega
  have u48 : ((s[k + 1].toNat : Int) == 48) = false := by simp; omega
  have u92 : ((s[k + 1].toNat : Int) == 92) = true := by simp [hd]
  have t3 : (k : Int) + 1 < s.size := by omega
  have e1 : ((k : Int) + 1).toNat = k + 1 := by omega
  have p1 : 0 ≤ (k : Int) + 1 := by omega
  clear h92 hd
  go_enter Tryd.func70, Tryd.ntmps70
  go_wp2_with fail
  go_ret3
  exact refPieced_yes hfin.out rfl (by omega) ⟨0, rfl⟩

set_option maxHeartbeats 2000000 in
theorem refPiece_esc39 (k : Nat) (s : ByteArray) (q : Int) (w : World) (hk : k < s.size) (hs : s.size ≤ 1048576) (h92 : s[k].toNat = 92) (hc : k + 1 < s.size) (hd : s[k + 1].toNat = 39) :
    Calls Tryd.prog 70 #[.string s, .int .i64 k, .int .u8 q] w (RefPieced k (pieceL (sfx s k)) w) := by
  have hfin := Lib.hid (show pieceL (sfx s k) = some (s[k + 1], 2) by rw [pieceL_esc hk h92 hc]; exact (if_neg (by omega)).trans ((if_neg (by omega)).trans ((if_neg (by omega)).trans ((if_neg (by omega)).trans (if_pos (by omega))))))
  have t2 : ((s[k].toNat : Int) != 92) = false := by simp; omega
  have u110 : ((s[k + 1].toNat : Int) == 110) = false := by simp; omega
  have u116 : ((s[k + 1].toNat : Int) == 116) = false := by simp; omega
  have u114 : ((s[k + 1].toNat : Int) == 114) = false := by simp; omega
  have u48 : ((s[k + 1].toNat : Int) == 48) = false := by simp; omega
  have u92 : ((s[k + 1].toNat : Int) == 92) = false := by simp; omega
  have u39 : ((s[k + 1].toNat : Int) == 39) = true := by simp [hd]
  have t3 : (k : Int) + 1 < s.size := by omega
  have e1 : ((k : Int) + 1).toNat = k + 1 := by omega
  have p1 : 0 ≤ (k : Int) + 1 := by omega
  clear h92 hd
  go_enter Tryd.func70, Tryd.ntmps70
  go_wp2_with fail
  go_ret3
  exact refPieced_yes hfin.out rfl (by omega) ⟨0, rfl⟩

set_option maxHeartbeats 2000000 in
theorem refPiece_esc34 (k : Nat) (s : ByteArray) (q : Int) (w : World) (hk : k < s.size) (hs : s.size ≤ 1048576) (h92 : s[k].toNat = 92) (hc : k + 1 < s.size) (hd : s[k + 1].toNat = 34) :
    Calls Tryd.prog 70 #[.string s, .int .i64 k, .int .u8 q] w (RefPieced k (pieceL (sfx s k)) w) := by
  have hfin := Lib.hid (show pieceL (sfx s k) = some (s[k + 1], 2) by rw [pieceL_esc hk h92 hc]; exact (if_neg (by omega)).trans ((if_neg (by omega)).trans ((if_neg (by omega)).trans ((if_neg (by omega)).trans (if_pos (by omega))))))
  have t2 : ((s[k].toNat : Int) != 92) = false := by simp; omega
  have u110 : ((s[k + 1].toNat : Int) == 110) = false := by simp; omega
  have u116 : ((s[k + 1].toNat : Int) == 116) = false := by simp; omega
  have u114 : ((s[k + 1].toNat : Int) == 114) = false := by simp; omega
  have u48 : ((s[k + 1].toNat : Int) == 48) = false := by simp; omega
  have u92 : ((s[k + 1].toNat : Int) == 92) = false := by simp; omega
  have u39 : ((s[k + 1].toNat : Int) == 39) = false := by simp; omega
  have u34 : ((s[k + 1].toNat : Int) == 34) = true := by simp [hd]
  have t3 : (k : Int) + 1 < s.size := by omega
  have e1 : ((k : Int) + 1).toNat = k + 1 := by omega
  have p1 : 0 ≤ (k : Int) + 1 := by omega
  clear h92 hd
  go_enter Tryd.func70, Tryd.ntmps70
  go_wp2_with fail
  go_ret3
  exact refPieced_yes hfin.out rfl (by omega) ⟨0, rfl⟩

set_option maxHeartbeats 2000000 in
theorem refPiece_escno (k : Nat) (s : ByteArray) (q : Int) (w : World) (hk : k < s.size) (hs : s.size ≤ 1048576) (h92 : s[k].toNat = 92) (hc : k + 1 < s.size) (hd : s[k + 1].toNat ≠ 110 ∧ s[k + 1].toNat ≠ 116 ∧ s[k + 1].toNat ≠ 114 ∧ s[k + 1].toNat ≠ 48 ∧ s[k + 1].toNat ≠ 92 ∧ s[k + 1].toNat ≠ 39 ∧ s[k + 1].toNat ≠ 34 ∧ s[k + 1].toNat ≠ 120) :
    Calls Tryd.prog 70 #[.string s, .int .i64 k, .int .u8 q] w (RefPieced k (pieceL (sfx s k)) w) := by
  have hfin := Lib.hid (show pieceL (sfx s k) = none by rw [pieceL_esc hk h92 hc, esc_none _ hd])
  have t2 : ((s[k].toNat : Int) != 92) = false := by simp; omega
  have u110 : ((s[k + 1].toNat : Int) == 110) = false := by simp; omega
  have u116 : ((s[k + 1].toNat : Int) == 116) = false := by simp; omega
  have u114 : ((s[k + 1].toNat : Int) == 114) = false := by simp; omega
  have u48 : ((s[k + 1].toNat : Int) == 48) = false := by simp; omega
  have u92 : ((s[k + 1].toNat : Int) == 92) = false := by simp; omega
  have u39 : ((s[k + 1].toNat : Int) == 39) = false := by simp; omega
  have u34 : ((s[k + 1].toNat : Int) == 34) = false := by simp; omega
  have u120 : ((s[k + 1].toNat : Int) == 120) = false := by simp; omega
  have t3 : (k : Int) + 1 < s.size := by omega
  have e1 : ((k : Int) + 1).toNat = k + 1 := by omega
  have p1 : 0 ≤ (k : Int) + 1 := by omega
  clear h92 hd
  go_enter Tryd.func70, Tryd.ntmps70
  go_wp2_with fail
  go_ret3
  exact refPieced_no hfin.out ⟨0, rfl⟩

set_option maxHeartbeats 2000000 in
theorem refPiece_zend (k : Nat) (s : ByteArray) (q : Int) (w : World) (hk : k < s.size) (hs : s.size ≤ 1048576) (h92 : s[k].toNat = 92) (hc : k + 1 < s.size) (hd : s[k + 1].toNat = 48) (hx : s.size ≤ k + 2) :
    Calls Tryd.prog 70 #[.string s, .int .i64 k, .int .u8 q] w (RefPieced k (pieceL (sfx s k)) w) := by
  have hfin := Lib.hid (show pieceL (sfx s k) = some (0, 2) by rw [pieceL_esc hk h92 hc, esc_zero _ hd, sfx_nil s (k + 2) hx])
  have t2 : ((s[k].toNat : Int) != 92) = false := by simp; omega
  have u110 : ((s[k + 1].toNat : Int) == 110) = false := by simp; omega
  have u116 : ((s[k + 1].toNat : Int) == 116) = false := by simp; omega
  have u114 : ((s[k + 1].toNat : Int) == 114) = false := by simp; omega
  have u48 : ((s[k + 1].toNat : Int) == 48) = true := by simp [hd]
  have t3 : (k : Int) + 1 < s.size := by omega
  have e1 : ((k : Int) + 1).toNat = k + 1 := by omega
  have p1 : 0 ≤ (k : Int) + 1 := by omega
  have e2 : ((k : Int) + 2).toNat = k + 2 := by omega
  have p2 : 0 ≤ (k : Int) + 2 := by omega
  have l2 : (s.size : Int) ≤ (k : Int) + 2 := by omega
  clear h92 hd
  go_enter Tryd.func70, Tryd.ntmps70
  go_wp2_with fail
  go_ret3
  exact refPieced_yes hfin.out rfl (by omega) ⟨0, rfl⟩

set_option maxHeartbeats 2000000 in
theorem refPiece_zno (k : Nat) (s : ByteArray) (q : Int) (w : World) (hk : k < s.size) (hs : s.size ≤ 1048576) (h92 : s[k].toNat = 92) (hc : k + 1 < s.size) (hd : s[k + 1].toNat = 48) (hx : k + 2 < s.size) (hg : digB s[k + 2] = true) :
    Calls Tryd.prog 70 #[.string s, .int .i64 k, .int .u8 q] w (RefPieced k (pieceL (sfx s k)) w) := by
  have hfin := Lib.hid (show pieceL (sfx s k) = none by rw [pieceL_esc hk h92 hc, esc_zero _ hd, sfx_cons s (k + 2) hx]; exact if_pos hg)
  have t2 : ((s[k].toNat : Int) != 92) = false := by simp; omega
  have u110 : ((s[k + 1].toNat : Int) == 110) = false := by simp; omega
  have u116 : ((s[k + 1].toNat : Int) == 116) = false := by simp; omega
  have u114 : ((s[k + 1].toNat : Int) == 114) = false := by simp; omega
  have u48 : ((s[k + 1].toNat : Int) == 48) = true := by simp [hd]
  have t3 : (k : Int) + 1 < s.size := by omega
  have e1 : ((k : Int) + 1).toNat = k + 1 := by omega
  have p1 : 0 ≤ (k : Int) + 1 := by omega
  have e2 : ((k : Int) + 2).toNat = k + 2 := by omega
  have p2 : 0 ≤ (k : Int) + 2 := by omega
  have l2 : (k : Int) + 2 < s.size := by omega
  have HD := Lib.hid hg
  clear h92 hd hg
  go_enter Tryd.func70, Tryd.ntmps70
  go_wp2_with (go_at_call 53; refine (refDigit_is true _ _ HD.out).mono ?_; rintro e w' ⟨rfl, rfl⟩)
  go_ret3
  exact refPieced_no hfin.out ⟨0, rfl⟩

set_option maxHeartbeats 2000000 in
theorem refPiece_zyes (k : Nat) (s : ByteArray) (q : Int) (w : World) (hk : k < s.size) (hs : s.size ≤ 1048576) (h92 : s[k].toNat = 92) (hc : k + 1 < s.size) (hd : s[k + 1].toNat = 48) (hx : k + 2 < s.size) (hg : digB s[k + 2] = false) :
    Calls Tryd.prog 70 #[.string s, .int .i64 k, .int .u8 q] w (RefPieced k (pieceL (sfx s k)) w) := by
  have hfin := Lib.hid (show pieceL (sfx s k) = some (0, 2) by rw [pieceL_esc hk h92 hc, esc_zero _ hd, sfx_cons s (k + 2) hx]; exact if_neg (by simp [hg]))
  have t2 : ((s[k].toNat : Int) != 92) = false := by simp; omega
  have u110 : ((s[k + 1].toNat : Int) == 110) = false := by simp; omega
  have u116 : ((s[k + 1].toNat : Int) == 116) = false := by simp; omega
  have u114 : ((s[k + 1].toNat : Int) == 114) = false := by simp; omega
  have u48 : ((s[k + 1].toNat : Int) == 48) = true := by simp [hd]
  have t3 : (k : Int) + 1 < s.size := by omega
  have e1 : ((k : Int) + 1).toNat = k + 1 := by omega
  have p1 : 0 ≤ (k : Int) + 1 := by omega
  have e2 : ((k : Int) + 2).toNat = k + 2 := by omega
  have p2 : 0 ≤ (k : Int) + 2 := by omega
  have l2 : (k : Int) + 2 < s.size := by omega
  have HD := Lib.hid hg
  clear h92 hd hg
  go_enter Tryd.func70, Tryd.ntmps70
  go_wp2_with (go_at_call 53; refine (refDigit_is false _ _ HD.out).mono ?_; rintro e w' ⟨rfl, rfl⟩)
  go_ret3
  exact refPieced_yes hfin.out rfl (by omega) ⟨0, rfl⟩

set_option maxHeartbeats 2000000 in
theorem refPiece_xend (k : Nat) (s : ByteArray) (q : Int) (w : World) (hk : k < s.size) (hs : s.size ≤ 1048576) (h92 : s[k].toNat = 92) (hc : k + 1 < s.size) (hd : s[k + 1].toNat = 120) (hx : s.size ≤ k + 3) :
    Calls Tryd.prog 70 #[.string s, .int .i64 k, .int .u8 q] w (RefPieced k (pieceL (sfx s k)) w) := by
  have hfin := Lib.hid (show pieceL (sfx s k) = none by
    rw [pieceL_esc hk h92 hc, esc_hex _ hd]
    rcases Nat.lt_or_ge (k + 2) s.size with h2 | h2
    · rw [sfx_cons s (k + 2) h2, sfx_nil s (k + 3) hx]
    · rw [sfx_nil s (k + 2) h2])
  have t2 : ((s[k].toNat : Int) != 92) = false := by simp; omega
  have u110 : ((s[k + 1].toNat : Int) == 110) = false := by simp; omega
  have u116 : ((s[k + 1].toNat : Int) == 116) = false := by simp; omega
  have u114 : ((s[k + 1].toNat : Int) == 114) = false := by simp; omega
  have u48 : ((s[k + 1].toNat : Int) == 48) = false := by simp; omega
  have u92 : ((s[k + 1].toNat : Int) == 92) = false := by simp; omega
  have u39 : ((s[k + 1].toNat : Int) == 39) = false := by simp; omega
  have u34 : ((s[k + 1].toNat : Int) == 34) = false := by simp; omega
  have u120 : ((s[k + 1].toNat : Int) == 120) = true := by simp [hd]
  have t3 : (k : Int) + 1 < s.size := by omega
  have e1 : ((k : Int) + 1).toNat = k + 1 := by omega
  have p1 : 0 ≤ (k : Int) + 1 := by omega
  have e2 : ((k : Int) + 2).toNat = k + 2 := by omega
  have p2 : 0 ≤ (k : Int) + 2 := by omega
  have e3 : ((k : Int) + 3).toNat = k + 3 := by omega
  have p3 : 0 ≤ (k : Int) + 3 := by omega
  have l3 : (s.size : Int) ≤ (k : Int) + 3 := by omega
  clear h92 hd
  go_enter Tryd.func70, Tryd.ntmps70
  go_wp2_with fail
  go_ret3
  exact refPieced_no hfin.out ⟨0, rfl⟩

set_option maxHeartbeats 2000000 in
theorem refPiece_xno1 (k : Nat) (s : ByteArray) (q : Int) (w : World) (hk : k < s.size) (hs : s.size ≤ 1048576) (h92 : s[k].toNat = 92) (hc : k + 1 < s.size) (hd : s[k + 1].toNat = 120) (hx : k + 3 < s.size) (hg : hexN s[k + 2] = none) :
    Calls Tryd.prog 70 #[.string s, .int .i64 k, .int .u8 q] w (RefPieced k (pieceL (sfx s k)) w) := by
  have hfin := Lib.hid (show pieceL (sfx s k) = none by
    rw [pieceL_esc hk h92 hc, esc_hex _ hd, sfx_cons s (k + 2) (by omega), sfx_cons s (k + 3) (by omega)]
    simp only [hg])
  have t2 : ((s[k].toNat : Int) != 92) = false := by simp; omega
  have u110 : ((s[k + 1].toNat : Int) == 110) = false := by simp; omega
  have u116 : ((s[k + 1].toNat : Int) == 116) = false := by simp; omega
  have u114 : ((s[k + 1].toNat : Int) == 114) = false := by simp; omega
  have u48 : ((s[k + 1].toNat : Int) == 48) = false := by simp; omega
  have u92 : ((s[k + 1].toNat : Int) == 92) = false := by simp; omega
  have u39 : ((s[k + 1].toNat : Int) == 39) = false := by simp; omega
  have u34 : ((s[k + 1].toNat : Int) == 34) = false := by simp; omega
  have u120 : ((s[k + 1].toNat : Int) == 120) = true := by simp [hd]
  have t3 : (k : Int) + 1 < s.size := by omega
  have e1 : ((k : Int) + 1).toNat = k + 1 := by omega
  have p1 : 0 ≤ (k : Int) + 1 := by omega
  have e2 : ((k : Int) + 2).toNat = k + 2 := by omega
  have p2 : 0 ≤ (k : Int) + 2 := by omega
  have e3 : ((k : Int) + 3).toNat = k + 3 := by omega
  have p3 : 0 ≤ (k : Int) + 3 := by omega
  have l3 : (k : Int) + 3 < s.size := by omega
  have l2 : (k : Int) + 2 < s.size := by omega
  have HX := Lib.hid (hexN_no hg)
  have HY := HX
  clear h92 hd hg
  go_enter Tryd.func70, Tryd.ntmps70
  go_wp2_with (go_at_call 69; first | ((with_reducible refine (refHex_is (-1) _ _ HX.out).mono ?_); rintro e w' ⟨rfl, rfl⟩) | ((with_reducible refine (refHex_is (-1) _ _ HY.out).mono ?_); rintro e w' ⟨rfl, rfl⟩))
  go_ret3
  exact refPieced_no hfin.out ⟨0, rfl⟩

set_option maxHeartbeats 2000000 in
theorem refPiece_xno2 (k : Nat) (s : ByteArray) (q : Int) (w : World) (hk : k < s.size) (hs : s.size ≤ 1048576) (h92 : s[k].toNat = 92) (hc : k + 1 < s.size) (hd : s[k + 1].toNat = 120) (hx : k + 3 < s.size) (a : Nat) (hg : hexN s[k + 2] = some a) (hg2 : hexN s[k + 3] = none) :
    Calls Tryd.prog 70 #[.string s, .int .i64 k, .int .u8 q] w (RefPieced k (pieceL (sfx s k)) w) := by
  have hfin := Lib.hid (show pieceL (sfx s k) = none by
    rw [pieceL_esc hk h92 hc, esc_hex _ hd, sfx_cons s (k + 2) (by omega), sfx_cons s (k + 3) (by omega)]
    simp only [hg, hg2])
  have t2 : ((s[k].toNat : Int) != 92) = false := by simp; omega
  have u110 : ((s[k + 1].toNat : Int) == 110) = false := by simp; omega
  have u116 : ((s[k + 1].toNat : Int) == 116) = false := by simp; omega
  have u114 : ((s[k + 1].toNat : Int) == 114) = false := by simp; omega
  have u48 : ((s[k + 1].toNat : Int) == 48) = false := by simp; omega
  have u92 : ((s[k + 1].toNat : Int) == 92) = false := by simp; omega
  have u39 : ((s[k + 1].toNat : Int) == 39) = false := by simp; omega
  have u34 : ((s[k + 1].toNat : Int) == 34) = false := by simp; omega
  have u120 : ((s[k + 1].toNat : Int) == 120) = true := by simp [hd]
  have t3 : (k : Int) + 1 < s.size := by omega
  have e1 : ((k : Int) + 1).toNat = k + 1 := by omega
  have p1 : 0 ≤ (k : Int) + 1 := by omega
  have e2 : ((k : Int) + 2).toNat = k + 2 := by omega
  have p2 : 0 ≤ (k : Int) + 2 := by omega
  have e3 : ((k : Int) + 3).toNat = k + 3 := by omega
  have p3 : 0 ≤ (k : Int) + 3 := by omega
  have l3 : (k : Int) + 3 < s.size := by omega
  have l2 : (k : Int) + 2 < s.size := by omega
  have HX := Lib.hid (hexN_lt hg).2
  have HY := Lib.hid (hexN_no hg2)
  clear h92 hd hg hg2
  go_enter Tryd.func70, Tryd.ntmps70
  go_wp2_with (go_at_call 69; first | ((with_reducible refine (refHex_is a _ _ HX.out).mono ?_); rintro e w' ⟨rfl, rfl⟩) | ((with_reducible refine (refHex_is (-1) _ _ HY.out).mono ?_); rintro e w' ⟨rfl, rfl⟩))
  go_ret3
  exact refPieced_no hfin.out ⟨0, rfl⟩

theorem hex_byte2 : ∀ a b : Fin 16, 16 * (a.val : Int) + (b.val : Int) = ((UInt8.ofNat (16 * a.val + b.val)).toNat : Int) := by decide +kernel
set_option maxHeartbeats 2000000 in
theorem refPiece_xyes (k : Nat) (s : ByteArray) (q : Int) (w : World) (hk : k < s.size) (hs : s.size ≤ 1048576) (h92 : s[k].toNat = 92) (hc : k + 1 < s.size) (hd : s[k + 1].toNat = 120) (hx : k + 3 < s.size) (a c : Nat) (hg : hexN s[k + 2] = some a) (hg2 : hexN s[k + 3] = some c) :
    Calls Tryd.prog 70 #[.string s, .int .i64 k, .int .u8 q] w (RefPieced k (pieceL (sfx s k)) w) := by
  have hfin := Lib.hid (show pieceL (sfx s k) = some (UInt8.ofNat (16 * a + c), 4) by
    rw [pieceL_esc hk h92 hc, esc_hex _ hd, sfx_cons s (k + 2) (by omega), sfx_cons s (k + 3) (by omega)]
    simp only [hg, hg2])
  have t2 : ((s[k].toNat : Int) != 92) = false := by simp; omega
  have u110 : ((s[k + 1].toNat : Int) == 110) = false := by simp; omega
  have u116 : ((s[k + 1].toNat : Int) == 116) = false := by simp; omega
  have u114 : ((s[k + 1].toNat : Int) == 114) = false := by simp; omega
  have u48 : ((s[k + 1].toNat : Int) == 48) = false := by simp; omega
  have u92 : ((s[k + 1].toNat : Int) == 92) = false := by simp; omega
  have u39 : ((s[k + 1].toNat : Int) == 39) = false := by simp; omega
  have u34 : ((s[k + 1].toNat : Int) == 34) = false := by simp; omega
  have u120 : ((s[k + 1].toNat : Int) == 120) = true := by simp [hd]
  have t3 : (k : Int) + 1 < s.size := by omega
  have e1 : ((k : Int) + 1).toNat = k + 1 := by omega
  have p1 : 0 ≤ (k : Int) + 1 := by omega
  have e2 : ((k : Int) + 2).toNat = k + 2 := by omega
  have p2 : 0 ≤ (k : Int) + 2 := by omega
  have e3 : ((k : Int) + 3).toNat = k + 3 := by omega
  have p3 : 0 ≤ (k : Int) + 3 := by omega
  have l3 : (k : Int) + 3 < s.size := by omega
  have l2 : (k : Int) + 2 < s.size := by omega
  have HX := Lib.hid (hexN_lt hg).2
  have HY := Lib.hid (hexN_lt hg2).2
  have ha := (hexN_lt hg).1
  have hcc := (hexN_lt hg2).1
  have w2 : IntKind.i64.wrap ((k : Int) + 2) = (k : Int) + 2 := IntWalk.i64_in _ (by omega)
  have w3 : IntKind.i64.wrap ((k : Int) + 3) = (k : Int) + 3 := IntWalk.i64_in _ (by omega)
  have w4 : IntKind.i64.wrap ((k : Int) + 4) = (k : Int) + 4 := IntWalk.i64_in _ (by omega)
  clear h92 hd hg hg2
  go_enter Tryd.func70, Tryd.ntmps70
  go_wp2_with (go_at_call 69; first | ((with_reducible refine (refHex_is a _ _ HX.out).mono ?_); rintro e w' ⟨rfl, rfl⟩) | ((with_reducible refine (refHex_is c _ _ HY.out).mono ?_); rintro e w' ⟨rfl, rfl⟩))
  go_quiet ((go_at_call 69; first | exact Calls.quiet_of_same (refHex_is a _ _ HX.out) | exact Calls.quiet_of_same (refHex_is c _ _ HY.out)))
  go_wp2_with fail
  go_ret3
  exact refPieced_yes hfin.out (hex_byte2 ⟨a, ha⟩ ⟨c, hcc⟩) (by omega) ⟨_, rfl⟩

theorem refPiece_ok (k : Nat) (s : ByteArray) (q : Int) (w : World) (hk : k < s.size) (hs : s.size ≤ 1048576) :
    Calls Tryd.prog 70 #[.string s, .int .i64 k, .int .u8 q] w (RefPieced k (pieceL (sfx s k)) w) := by
  by_cases h1 : s[k].toNat < 32 ∨ 126 < s[k].toNat
  · exact refPiece_low k s q w hk hs h1
  · by_cases h92 : s[k].toNat = 92
    · by_cases hc : k + 1 < s.size
      · by_cases d1 : s[k + 1].toNat = 110
        · exact refPiece_esc110 k s q w hk hs h92 hc d1
        · by_cases d2 : s[k + 1].toNat = 116
          · exact refPiece_esc116 k s q w hk hs h92 hc d2
          · by_cases d3 : s[k + 1].toNat = 114
            · exact refPiece_esc114 k s q w hk hs h92 hc d3
            · by_cases d4 : s[k + 1].toNat = 48
              · by_cases hx : k + 2 < s.size
                · rcases hg : digB s[k + 2] with _ | _
                  · exact refPiece_zyes k s q w hk hs h92 hc d4 hx hg
                  · exact refPiece_zno k s q w hk hs h92 hc d4 hx hg
                · exact refPiece_zend k s q w hk hs h92 hc d4 (by omega)
              · by_cases d5 : s[k + 1].toNat = 92
                · exact refPiece_esc92 k s q w hk hs h92 hc d5
                · by_cases d6 : s[k + 1].toNat = 39
                  · exact refPiece_esc39 k s q w hk hs h92 hc d6
                  · by_cases d7 : s[k + 1].toNat = 34
                    · exact refPiece_esc34 k s q w hk hs h92 hc d7
                    · by_cases d8 : s[k + 1].toNat = 120
                      · by_cases hx : k + 3 < s.size
                        · rcases hg : hexN s[k + 2] with _ | a
                          · exact refPiece_xno1 k s q w hk hs h92 hc d8 hx hg
                          · rcases hg2 : hexN s[k + 3] with _ | c
                            · exact refPiece_xno2 k s q w hk hs h92 hc d8 hx a hg hg2
                            · exact refPiece_xyes k s q w hk hs h92 hc d8 hx a c hg hg2
                        · exact refPiece_xend k s q w hk hs h92 hc d8 (by omega)
                      · exact refPiece_escno k s q w hk hs h92 hc ⟨d1, d2, d3, d4, d5, d6, d7, d8⟩
      · exact refPiece_cut k s q w hk hs h92 (by omega)
    · exact refPiece_plain k s q w hk hs h1 h92

end Go.Proofs.YtncojfcdkigmiaaDoor
