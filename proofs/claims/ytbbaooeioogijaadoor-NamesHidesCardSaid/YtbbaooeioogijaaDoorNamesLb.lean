/- The law's comparisons: meanings, slots. -/
import Derived.Test.YtbbaooeioogijaaDoorMg23
import Derived.Test.YtbbaooeioogijaaDoorMg12
namespace Go.Proofs.YtbbaooeioogijaaDoor
open Go.RowKit

theorem bnds_at {B : Nat} {w : World} {a : Option Addr} {t : List Bnd} (h : IsSl 3 bndCells B w a t) {i : Nat} (hi : i < t.length) : ∃ b off, a = some ⟨b, off, none⟩ ∧ b < B ∧
    w.cell? ⟨b, off + i * 3, none⟩ = some (.int .i64 t[i].kind) ∧ w.cell? ⟨b, off + i * 3 + 1, none⟩ = some (.int .i64 t[i].idx) ∧ w.cell? ⟨b, off + i * 3 + 2, none⟩ = some (.string t[i].type) := by
  obtain ⟨b, off, e, hlt, hc⟩ := h (fun e => by rw [e] at hi; simp at hi)
  have h1 := hc i _ (List.getElem?_eq_getElem hi)
  exact ⟨b, off, e, hlt, by simpa using h1 0 _ rfl, h1 1 _ rfl, h1 2 _ rfl⟩
set_option maxHeartbeats 4000000 in
theorem bindings11_ok (a b : Option Addr) (ca cb : Nat) (L : List Bnd) (w : World) (hA : IsSl 3 bndCells w.heap.size w a L) (hB : IsSl 3 bndCells w.heap.size w b L) (hl : L.length ≤ 4096) :
    Calls Tryd.prog 10 #[.slice a L.length ca, .slice b L.length cb] w fun e w' => e = .returned (.bool true) ∧ Below w.heap.size w w' := by
  have HA := Lib.hid hA
  have HB := Lib.hid hB
  have hli : (L.length : Int) ≤ 4096 := by omega
  have hne : ((L.length : Int) != (L.length : Int)) = false := by simp
  clear hA hB
  go_enter Tryd.func10, Tryd.ntmps10
  go_wp2_with fail
  go_loopg [5] L.length (fun m v5 wy => ∃ (i : Nat), i ≤ L.length ∧ i + m = L.length ∧ v5 = .int .i64 (i : Int) ∧ Hid (Below w.heap.size w wy))
  case atStart => exact ⟨0, by omega, by omega, rfl, Lib.hid (Below.refl _ _)⟩
  case round =>
    obtain ⟨i, hi, him, rfl, HW⟩ := hrel
    by_cases hlt : i < L.length
    · obtain ⟨b1, o1, ha, hb1, c0, c1, c2⟩ := bnds_at HA.out hlt
      obtain ⟨b2, o2, hb, hb2, e0, e1, e2⟩ := bnds_at HB.out hlt
      subst ha hb
      rw [← HW.out.cell hb1] at c0 c1 c2
      rw [← HW.out.cell hb2] at e0 e1 e2
      generalize L[i] = x at *
      obtain ⟨kk, n, ty⟩ := x
      simp only at c0 c1 c2 e0 e1 e2
      have t1 : ∀ z : Int, (z != z) = false := by simp
      have t2 : ∀ z : List UInt8, (z != z) = false := by simp
      have t3 : ∀ z : Int, (z == z) = true := by simp
      have t4 : ∀ z : List UInt8, (z == z) = true := by simp
      have hi0 : (0 : Int) ≤ (i : Int) := by omega
      have hi1 : (i : Int) < (L.length : Int) := by omega
      go_wp2_with fail
      go_quiet (fail)
      go_wp2_with fail
      go_roundg (L.length - (i + 1))
      case measure => omega
      case rel => exact ⟨i + 1, by omega, by omega, by rw [Int.natCast_add]; rfl, Lib.hid (blw_drewN HW.out _)⟩
    · obtain rfl : i = L.length := by omega
      go_wp2_with fail
      go_ret
      exact ⟨rfl, HW.out⟩
end Go.Proofs.YtbbaooeioogijaaDoor

