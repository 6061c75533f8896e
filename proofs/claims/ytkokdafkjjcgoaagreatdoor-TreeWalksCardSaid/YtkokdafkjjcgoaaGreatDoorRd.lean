/- The reader of types: the byte that comes, a byte taken, what stands ahead of a byte. -/
import Derived.Test.YtkokdafkjjcgoaaGreatDoorLowM
import Derived.Deep.RegionWith
namespace Go.Proofs.YtkokdafkjjcgoaaGreatDoor
open Go.RowKit

/-- a reader in block b: its text, where it stands, the depth so far -/
structure RdAt (w : World) (b : Nat) (s : ByteArray) (k d : Nat) : Prop where
  blk : w.heap[b]? = some (.cells #[.string s, .int .i64 (k : Int), .int .i64 (d : Int)] 231 (0, 0))
theorem RdAt.cells {w b s k d} (h : RdAt w b s k d) : (w.cell? ⟨b, 0, none⟩ = some (.string s) ∧ w.cell? ⟨b, 1, none⟩ = some (.int .i64 (k : Int)) ∧ w.cell? ⟨b, 2, none⟩ = some (.int .i64 (d : Int))) ∧ ∀ j, w.frozen? ⟨b, j, none⟩ = false := by
  refine ⟨⟨?_, ?_, ?_⟩, fun j => ?_⟩
  · simp [World.cell?, h.blk]
  · simp [World.cell?, h.blk]
  · simp [World.cell?, h.blk]
  · simp [World.frozen?, h.blk]
theorem RdAt.drewN {w b s k d} (h : RdAt w b s k d) (n : Nat) : RdAt (w.drewN n) b s k d := ⟨h.blk⟩
theorem RdAt.set1 {w b s k d} (h : RdAt w b s k d) (m : Nat) : RdAt (w.setCell ⟨b, 1, none⟩ (.int .i64 (m : Int))) b s m d := by
  refine ⟨?_⟩
  simp [World.setCell, Array.getElem?_modify, h.blk]
theorem RdAt.set2 {w b s k d} (h : RdAt w b s k d) (m : Nat) : RdAt (w.setCell ⟨b, 2, none⟩ (.int .i64 (m : Int))) b s k m := by
  refine ⟨?_⟩
  simp [World.setCell, Array.getElem?_modify, h.blk]
theorem RdAt.at1 {w b s k d} (h : RdAt w b s k d) {m : Nat} {x : Int} (hx : x = m) : RdAt (w.setCell ⟨b, 1, none⟩ (.int .i64 x)) b s m d := by subst hx; exact h.set1 m
theorem RdAt.at2 {w b s k d} (h : RdAt w b s k d) {m : Nat} {x : Int} (hx : x = m) : RdAt (w.setCell ⟨b, 2, none⟩ (.int .i64 x)) b s k m := by subst hx; exact h.set2 m
theorem RdAt.below {w w' b s k d} (h : RdAt w b s k d) (hb : Below w.heap.size w w') : RdAt w' b s k d := ⟨by rw [hb.block b (lt_of_heap h.blk)]; exact h.blk⟩
theorem RdAt.lt {w b s k d} (h : RdAt w b s k d) : b < w.heap.size := lt_of_heap h.blk

/-- the byte at a place; 0 behind the end -/
def byteAt (s : ByteArray) (k : Nat) : Nat := if h : k < s.size then s[k].toNat else 0
theorem byteAt_in {s : ByteArray} {k : Nat} (h : k < s.size) : byteAt s k = s[k].toNat := by rw [byteAt, dif_pos h]
theorem byteAt_out {s : ByteArray} {k : Nat} (h : s.size ≤ k) : byteAt s k = 0 := by rw [byteAt, dif_neg (by omega)]

set_option maxHeartbeats 1000000 in
theorem next_ok (b k d : Nat) (s : ByteArray) (w : World) (h : RdAt w b s k d) :
    Calls Tryz.prog 215 #[.pointer (some ⟨b, 0, none⟩)] w fun e w' => e = .returned (.int .u8 (byteAt s k : Int)) ∧ ∃ n, w' = w.drewN n := by
  obtain ⟨⟨c0, c1, c2⟩, hf⟩ := h.cells
  clear h hf
  by_cases hk : k < s.size
  · have hE := Lib.hid (byteAt_in hk)
    have t1 : decide (k < s.size) = true := by simpa using hk
    go_enter Tryz.func215, Tryz.ntmps215
    go_wp2_with fail
    go_quiet (fail)
    go_wp2_with fail
    go_quiet (fail)
    go_wp2
    go_ret
    exact ⟨by rw [hE.out]; rfl, _, World.drewN_drewN _ _ _⟩
  · have hE := Lib.hid (byteAt_out (s := s) (k := k) (by omega))
    have t1 : decide (k < s.size) = false := by simpa using hk
    go_enter Tryz.func215, Tryz.ntmps215
    go_wp2_with fail
    go_quiet (fail)
    go_wp2
    go_ret
    exact ⟨by rw [hE.out]; rfl, _, rfl⟩
theorem next_is (r : Int) (b k d : Nat) (s : ByteArray) (w : World) (h : RdAt w b s k d) (hr : (byteAt s k : Int) = r) :
    Calls Tryz.prog 215 #[.pointer (some ⟨b, 0, none⟩)] w fun e w' => e = .returned (.int .u8 r) ∧ ∃ n, w' = w.drewN n := by
  subst hr; exact next_ok b k d s w h

set_option maxHeartbeats 2000000 in
/-- a byte that comes is taken -/
theorem take_yes (c : UInt8) (b k d : Nat) (s : ByteArray) (w : World) (h : RdAt w b s k d) (hk : k < s.size) (hc : s[k] = c) (hs : s.size ≤ 1048576) :
    Calls Tryz.prog 183 #[.pointer (some ⟨b, 0, none⟩), .int .u8 (c.toNat : Int)] w fun e w' => e = .returned (.bool true) ∧ RdAt w' b s (k + 1) d ∧ w.grownBy w' (some b) := by
  have H := Lib.hid h
  have HN := Lib.hid (show (byteAt s k : Int) = (c.toNat : Int) by rw [byteAt_in hk, hc])
  obtain ⟨⟨c0, c1, c2⟩, hf⟩ := h.cells
  have f1 := hf 1
  have t1 : decide (s.size ≤ k) = false := by simp; omega
  have t2 : decide ((s.size : Int) ≤ k) = false := by simp; omega
  clear h hc hf
  go_enter Tryz.func183, Tryz.ntmps183
  go_wp2_with fail
  go_quiet ((go_at_call 215; exact Calls.quiet_of (next_is _ _ _ _ _ _ (H.out.drewN _) HN.out)))
  go_wp2
  go_ret
  exact ⟨rfl, by have := (H.out.drewN nq).set1 (k + 1); exact this, grown_set (grown_drewN (grown_refl _ _) _) _ rfl _⟩

set_option maxHeartbeats 2000000 in
/-- a byte that does not come is not taken -/
theorem take_no (c : UInt8) (b k d : Nat) (s : ByteArray) (w : World) (h : RdAt w b s k d) (hc0 : c.toNat ≠ 0) (hc : ∀ h : k < s.size, s[k] ≠ c) :
    Calls Tryz.prog 183 #[.pointer (some ⟨b, 0, none⟩), .int .u8 (c.toNat : Int)] w fun e w' => e = .returned (.bool false) ∧ ∃ n, w' = w.drewN n := by
  have H := Lib.hid h
  have t1 : ((byteAt s k : Int) != (c.toNat : Int)) = true := by
    rw [bne_iff_ne]
    by_cases hk : k < s.size
    · rw [byteAt_in hk]
      intro e
      exact hc hk (UInt8.toNat_inj.1 (by omega))
    · rw [byteAt_out (by omega)]
      intro e
      omega
  generalize hg : (byteAt s k : Int) = x at t1
  have HN := Lib.hid hg
  clear h hc hg hc0
  go_enter Tryz.func183, Tryz.ntmps183
  go_wp2_with fail
  go_quiet ((go_at_call 215; exact Calls.quiet_of (next_is _ _ _ _ _ _ (H.out.drewN _) HN.out)))
  go_wp2
  go_ret
  exact ⟨rfl, _, rfl⟩

theorem takeY (x : Int) (c : UInt8) (b k d : Nat) (s : ByteArray) (w : World) (hx : x = (c.toNat : Int)) (h : RdAt w b s k d) (hk : k < s.size) (hc : s[k] = c) (hs : s.size ≤ 1048576) :
    Calls Tryz.prog 183 #[.pointer (some ⟨b, 0, none⟩), .int .u8 x] w fun e w' => e = .returned (.bool true) ∧ RdAt w' b s (k + 1) d ∧ w.grownBy w' (some b) := by
  subst hx; exact take_yes c b k d s w h hk hc hs
theorem takeN (x : Int) (c : UInt8) (b k d : Nat) (s : ByteArray) (w : World) (hx : x = (c.toNat : Int)) (h : RdAt w b s k d) (hc0 : c.toNat ≠ 0) (hc : ∀ h : k < s.size, s[k] ≠ c) :
    Calls Tryz.prog 183 #[.pointer (some ⟨b, 0, none⟩), .int .u8 x] w fun e w' => e = .returned (.bool false) ∧ ∃ n, w' = w.drewN n := by
  subst hx; exact take_no c b k d s w h hc0 hc

end Go.Proofs.YtkokdafkjjcgoaaGreatDoor

