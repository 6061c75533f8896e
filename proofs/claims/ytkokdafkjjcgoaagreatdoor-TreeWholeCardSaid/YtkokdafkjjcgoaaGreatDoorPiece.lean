/- Pieces of what stands in quotes: the program's reader. -/
import Derived.Test.YtkokdafkjjcgoaaGreatDoorMg4
namespace Go.Proofs.YtkokdafkjjcgoaaGreatDoor
open Go.RowKit

theorem TextAt.step {w b cs T s k} (h : TextAt w b cs T s k) : TextAt (w.setCell ⟨b, 1, none⟩ (.int .i64 ((k : Int) + 1))) b cs T s (k + 1) := h.next (k + 1)

/-- what the program's reader tells of a piece -/
def Pieced (w : World) (b : Nat) (cs : Array Value) (T : TypeId) (s : ByteArray) (k : Nat) (r : Option (UInt8 × Nat)) (e : Ending) (w' : World) : Prop :=
  (match r with
    | some (c, m) => e = .returned (.tuple #[.int .u8 (c.toNat : Int), .bool true]) ∧ TextAt w' b cs T s (k + m)
    | none => e = .returned (.tuple #[.int .u8 0, .bool false])) ∧ w.grownBy w' (some b)
theorem pieced_yes {w w' : World} {b k m : Nat} {cs : Array Value} {T : TypeId} {s : ByteArray} {r : Option (UInt8 × Nat)} {c : UInt8} {n : Int} (hr : r = some (c, m)) (hn : n = (c.toNat : Int)) (h : TextAt w' b cs T s (k + m)) (hg : w.grownBy w' (some b)) :
    Pieced w b cs T s k r (.returned (.tuple #[.int .u8 n, .bool true])) w' := by subst hr hn; exact ⟨⟨rfl, h⟩, hg⟩
theorem pieced_no {w w' : World} {b k : Nat} {cs : Array Value} {T : TypeId} {s : ByteArray} {r : Option (UInt8 × Nat)} (hr : r = none) (hg : w.grownBy w' (some b)) :
    Pieced w b cs T s k r (.returned (.tuple #[.int .u8 0, .bool false])) w' := by subst hr; exact ⟨rfl, hg⟩

theorem pieceL_low {s : ByteArray} {k : Nat} (hk : k < s.size) (h : s[k].toNat < 32 ∨ 126 < s[k].toNat) : pieceL (sfx s k) = none := by
  rw [sfx_cons s k hk, pieceL.eq_def]; exact if_pos h
theorem pieceL_plain {s : ByteArray} {k : Nat} (hk : k < s.size) (h : ¬ (s[k].toNat < 32 ∨ 126 < s[k].toNat)) (h2 : s[k].toNat ≠ 92) : pieceL (sfx s k) = some (s[k], 1) := by
  rw [sfx_cons s k hk, pieceL.eq_def]; exact (if_neg h).trans (if_pos h2)
theorem pieceL_cut {s : ByteArray} {k : Nat} (hk : k < s.size) (h : s[k].toNat = 92) (h2 : s.size ≤ k + 1) : pieceL (sfx s k) = none := by
  rw [sfx_cons s k hk, sfx_nil s (k + 1) h2, pieceL, if_neg (by omega), if_neg (by omega)]

set_option maxHeartbeats 1000000 in
theorem piece_low (b k : Nat) (cs : Array Value) (T : TypeId) (s : ByteArray) (q : UInt8) (w : World) (h : TextAt w b cs T s k) (hk : k < s.size) (hl : s[k].toNat < 32 ∨ 126 < s[k].toNat) :
    Calls Tryz.prog 223 #[.pointer (some ⟨b, 0, none⟩), .int .u8 (q.toNat : Int)] w (Pieced w b cs T s k (pieceL (sfx s k))) := by
  have hfin := Lib.hid (pieceL_low hk hl)
  have c0 := h.c0
  have c1 := h.c1
  clear h
  rcases hl with hl | hl
  · have t1 : decide ((s[k].toNat : Int) < 32) = true := by simp; omega
    clear hl
    go_enter Tryz.func223, Tryz.ntmps223
    go_wp2_with fail
    go_quiet (fail)
    go_wp2_with fail
    go_ret2
    exact pieced_no hfin.out (grown_drewN (grown_refl _ _) _)
  · have t1 : decide ((s[k].toNat : Int) < 32) = false := by simp; omega
    have t2 : decide ((126 : Int) < s[k].toNat) = true := by simp; omega
    clear hl
    go_enter Tryz.func223, Tryz.ntmps223
    go_wp2_with fail
    go_quiet (fail)
    go_wp2_with fail
    go_ret2
    exact pieced_no hfin.out (grown_drewN (grown_refl _ _) _)

set_option maxHeartbeats 1000000 in
theorem piece_plain (b k : Nat) (cs : Array Value) (T : TypeId) (s : ByteArray) (q : UInt8) (w : World) (h : TextAt w b cs T s k) (hk : k < s.size) (hs : s.size ≤ 1048576) (hl : ¬ (s[k].toNat < 32 ∨ 126 < s[k].toNat)) (h92 : s[k].toNat ≠ 92) (hq : s[k] ≠ q) :
    Calls Tryz.prog 223 #[.pointer (some ⟨b, 0, none⟩), .int .u8 (q.toNat : Int)] w (Pieced w b cs T s k (pieceL (sfx s k))) := by
  have hfin := Lib.hid (pieceL_plain hk hl h92)
  have c0 := h.c0
  have c1 := h.c1
  have f1 := h.f1 1
  have H := Lib.hid h
  have t1 : decide ((s[k].toNat : Int) < 32) = false := by simp; omega
  have t2 : decide ((126 : Int) < s[k].toNat) = false := by simp; omega
  have t3 : ((s[k].toNat : Int) == q.toNat) = false := by
    rw [beq_eq_false_iff_ne]; intro e; exact hq (UInt8.toNat_inj.1 (by omega))
  have t4 : ((s[k].toNat : Int) != 92) = true := by simp; omega
  clear h hl h92 hq
  go_enter Tryz.func223, Tryz.ntmps223
  go_wp2_with fail
  go_quiet (fail)
  go_wp2_with fail
  go_ret2
  exact pieced_yes hfin.out rfl H.out.drew.step (grown_set (grown_drewN (grown_refl _ _) _) _ rfl _)

set_option maxHeartbeats 1000000 in
theorem piece_cut (b k : Nat) (cs : Array Value) (T : TypeId) (s : ByteArray) (q : UInt8) (w : World) (h : TextAt w b cs T s k) (hk : k < s.size) (hs : s.size ≤ 1048576) (h92 : s[k].toNat = 92) (hq : s[k] ≠ q) (hc : s.size ≤ k + 1) :
    Calls Tryz.prog 223 #[.pointer (some ⟨b, 0, none⟩), .int .u8 (q.toNat : Int)] w (Pieced w b cs T s k (pieceL (sfx s k))) := by
  have hfin := Lib.hid (pieceL_cut hk h92 hc)
  have c0 := h.c0
  have c1 := h.c1
  have f1 := h.f1 1
  have H := Lib.hid h
  have t1 : decide ((s[k].toNat : Int) < 32) = false := by simp; omega
  have t2 : decide ((126 : Int) < s[k].toNat) = false := by simp; omega
  have t3 : ((s[k].toNat : Int) == q.toNat) = false := by
    rw [beq_eq_false_iff_ne]; intro e; exact hq (UInt8.toNat_inj.1 (by omega))
  have t4 : ((s[k].toNat : Int) != 92) = false := by simp; omega
  have hM := Lib.hid (show decide (k + 1 < s.size) = false by simpa using hc)
  clear h h92 hq hc
  go_enter Tryz.func223, Tryz.ntmps223
  go_wp2_with fail
  go_quiet (fail)
  go_wp2_with (go_at_call 153; refine (more_is false b (k + 1) cs T s _ H.out.drew.step hM.out).mono ?_; rintro e w1 ⟨rfl, n1, rfl⟩)
  go_ret2
  exact pieced_no hfin.out (grown_drewN (grown_set (grown_drewN (grown_refl _ _) _) _ rfl _) _)

end Go.Proofs.YtkokdafkjjcgoaaGreatDoor

