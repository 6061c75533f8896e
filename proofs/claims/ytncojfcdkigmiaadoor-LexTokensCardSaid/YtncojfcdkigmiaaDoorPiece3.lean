/- A piece of two digits to the base 16: the program's reader; then all pieces. (Printed by wip/tools/gen-piece.py.) -/
import Derived.Test.YtncojfcdkigmiaaDoorPiece2
namespace Go.Proofs.YtncojfcdkigmiaaDoor
open Go.RowKit

theorem hex_byte : ∀ a b : Fin 16, bits .or .i64 ((a.val : Int) * 16) (b.val : Int) % 256 = ((UInt8.ofNat (16 * a.val + b.val)).toNat : Int) := by decide +kernel

set_option maxHeartbeats 2000000 in
set_option maxRecDepth 100000 in
theorem piece_esc120_yes (b k : Nat) (cs : Array Value) (T : TypeId) (s : ByteArray) (q : UInt8) (w : World) (h : TextAt w b cs T s k) (hk : k < s.size) (hs : s.size ≤ 1048576) (h92 : s[k].toNat = 92) (hq : s[k] ≠ q) (hc : k + 1 < s.size) (hd : s[k + 1].toNat = 120) (hx : k + 3 < s.size) (a c : Nat) (hg : hexN s[k + 2] = some a) (hg2 : hexN s[k + 3] = some c) :
    Calls Tryd.prog 68 #[.pointer (some ⟨b, 0, none⟩), .int .u8 (q.toNat : Int)] w (Pieced w b cs T s k (pieceL (sfx s k))) := by
  have hfin := Lib.hid (show pieceL (sfx s k) = some (UInt8.ofNat (16 * a + c), 4) by
    rw [pieceL_esc hk h92 hc, esc_hex _ hd, sfx_cons s (k + 2) (by omega), sfx_cons s (k + 3) (by omega)]
    simp only [hg, hg2])
  have c0 := h.c0
  have c1 := h.c1
  have f1 := h.f1 1
  have H := Lib.hid h
  have t1 : decide ((s[k].toNat : Int) < 32) = false := by simp; omega
  have t2 : decide ((126 : Int) < s[k].toNat) = false := by simp; omega
  have t3 : ((s[k].toNat : Int) == q.toNat) = false := by
    rw [beq_eq_false_iff_ne]; intro e; exact hq (UInt8.toNat_inj.1 (by omega))
  have t4 : ((s[k].toNat : Int) != 92) = false := by simp; omega
  have hM := Lib.hid (show decide (k + 1 < s.size) = true by simpa using hc)
  have u110 : ((s[k + 1].toNat : Int) == 110) = false := by simp; omega
  have u116 : ((s[k + 1].toNat : Int) == 116) = false := by simp; omega
  have u114 : ((s[k + 1].toNat : Int) == 114) = false := by simp; omega
  have u48 : ((s[k + 1].toNat : Int) == 48) = false := by simp; omega
  have u92 : ((s[k + 1].toNat : Int) == 92) = false := by simp; omega
  have u39 : ((s[k + 1].toNat : Int) == 39) = false := by simp; omega
  have u34 : ((s[k + 1].toNat : Int) == 34) = false := by simp; omega
  have u120 : ((s[k + 1].toNat : Int) == 120) = true := by simp [hd]
  have e2 : ((k : Int) + 1 + 1).toNat = k + 2 := by omega
  have p2 : 0 ≤ (k : Int) + 1 + 1 := by omega
  have e3 : ((k : Int) + 1 + 1 + 1).toNat = k + 3 := by omega
  have p3 : 0 ≤ (k : Int) + 1 + 1 + 1 := by omega
  have w3 : IntKind.i64.wrap ((k : Int) + 1 + 1 + 1) = (k : Int) + 1 + 1 + 1 := IntWalk.i64_in _ (by omega)
  have v3 : decide ((k : Int) + 1 + 1 + 1 < s.size) = true := by simp; omega
  have l2 : (k : Int) + 1 + 1 < s.size := by omega
  have l3 : (k : Int) + 1 + 1 + 1 < s.size := by omega
  have HX := Lib.hid (hexN_lt hg).2
  have HY := Lib.hid (hexN_lt hg2).2
  have ha := (hexN_lt hg).1
  have hcc := (hexN_lt hg2).1
  clear hg hg2
  clear h h92 hq hd
  have e1 : ((k : Int) + 1).toNat = k + 1 := by omega
  have p1 : 0 ≤ (k : Int) + 1 := by omega
  have l1 : (k : Int) + 1 < s.size := by omega
  go_enter Tryd.func68, Tryd.ntmps68
  go_wp2_with fail
  go_quiet (fail)
  go_wp2_with (go_at_call 25; refine (more_is true b (k + 1) cs T s _ H.out.drew.step hM.out).mono ?_; rintro e w1 ⟨rfl, n1, rfl⟩)
  go_quiet (fail)
  go_wp2_with fail
  go_quiet ((go_at_call 82; first | exact Calls.quiet_of_same (lexHex_is a _ _ HX.out) | exact Calls.quiet_of_same (lexHex_is c _ _ HY.out)))
  go_wp2_with fail
  generalize hwx : World.setCell _ _ _ = wx
  have hT : TextAt wx b cs T s (k + 4) := by rw [← hwx]; exact H.out.drew.step.drew.step.drew.next (k + 4)
  have hG : w.grownBy wx (some b) := by rw [← hwx]; exact grown_set (grown_drewN (grown_set (grown_drewN (grown_set (grown_drewN (grown_refl _ _) _) _ rfl _) _) _ rfl _) _) _ rfl _
  have HT := Lib.hid hT
  have HG := Lib.hid hG
  have x0 := hT.c0
  have x1 : wx.cell? ⟨b, 1, none⟩ = some (.int .i64 ((k : Int) + 4)) := hT.c1
  clear hwx hT hG c0 c1 f1 w3
  have w4 : IntKind.i64.wrap ((k : Int) + 4 - 2) = (k : Int) + 2 := (IntWalk.i64_in _ (by omega)).trans (by omega)
  have w5 : IntKind.i64.wrap ((k : Int) + 4 - 1) = (k : Int) + 3 := (IntWalk.i64_in _ (by omega)).trans (by omega)
  have e4 : ((k : Int) + 2).toNat = k + 2 := by omega
  have e5 : ((k : Int) + 3).toNat = k + 3 := by omega
  have p4 : 0 ≤ (k : Int) + 2 := by omega
  have p5 : 0 ≤ (k : Int) + 3 := by omega
  have l4 : (k : Int) + 2 < s.size := by omega
  have l5 : (k : Int) + 3 < s.size := by omega
  go_quiet ((go_at_call 82; first | exact Calls.quiet_of_same (lexHex_is a _ _ HX.out) | exact Calls.quiet_of_same (lexHex_is c _ _ HY.out)))
  go_wp2_with fail
  go_ret2
  exact pieced_yes hfin.out (hex_byte ⟨a, ha⟩ ⟨c, hcc⟩) HT.out.drew (grown_drewN HG.out _)

theorem piece_ok (b k : Nat) (cs : Array Value) (T : TypeId) (s : ByteArray) (q : UInt8) (w : World) (h : TextAt w b cs T s k) (hk : k < s.size) (hs : s.size ≤ 1048576) (hq : s[k] ≠ q) :
    Calls Tryd.prog 68 #[.pointer (some ⟨b, 0, none⟩), .int .u8 (q.toNat : Int)] w (Pieced w b cs T s k (pieceL (sfx s k))) := by
  by_cases h1 : s[k].toNat < 32 ∨ 126 < s[k].toNat
  · exact piece_low b k cs T s q w h hk h1
  · by_cases h92 : s[k].toNat = 92
    · by_cases hc : k + 1 < s.size
      · by_cases d1 : s[k + 1].toNat = 110
        · exact piece_esc110 b k cs T s q w h hk hs h92 hq hc d1
        · by_cases d2 : s[k + 1].toNat = 116
          · exact piece_esc116 b k cs T s q w h hk hs h92 hq hc d2
          · by_cases d3 : s[k + 1].toNat = 114
            · exact piece_esc114 b k cs T s q w h hk hs h92 hq hc d3
            · by_cases d4 : s[k + 1].toNat = 48
              · by_cases hx : k + 2 < s.size
                · rcases hg : digB s[k + 2] with _ | _
                  · exact piece_esc48_yes b k cs T s q w h hk hs h92 hq hc d4 hx hg
                  · exact piece_esc48_no b k cs T s q w h hk hs h92 hq hc d4 hx hg
                · exact piece_esc48_end b k cs T s q w h hk hs h92 hq hc d4 (by omega)
              · by_cases d5 : s[k + 1].toNat = 92
                · exact piece_esc92 b k cs T s q w h hk hs h92 hq hc d5
                · by_cases d6 : s[k + 1].toNat = 39
                  · exact piece_esc39 b k cs T s q w h hk hs h92 hq hc d6
                  · by_cases d7 : s[k + 1].toNat = 34
                    · exact piece_esc34 b k cs T s q w h hk hs h92 hq hc d7
                    · by_cases d8 : s[k + 1].toNat = 120
                      · by_cases hx : k + 3 < s.size
                        · rcases hg : hexN s[k + 2] with _ | a
                          · exact piece_esc120_no1 b k cs T s q w h hk hs h92 hq hc d8 hx hg
                          · rcases hg2 : hexN s[k + 3] with _ | c
                            · exact piece_esc120_no2 b k cs T s q w h hk hs h92 hq hc d8 hx a hg hg2
                            · exact piece_esc120_yes b k cs T s q w h hk hs h92 hq hc d8 hx a c hg hg2
                        · exact piece_esc120_end b k cs T s q w h hk hs h92 hq hc d8 (by omega)
                      · exact piece_escno b k cs T s q w h hk hs h92 hq hc ⟨d1, d2, d3, d4, d5, d6, d7, d8⟩
      · exact piece_cut b k cs T s q w h hk hs h92 hq (by omega)
    · exact piece_plain b k cs T s q w h hk hs h1 h92 hq

end Go.Proofs.YtncojfcdkigmiaaDoor
