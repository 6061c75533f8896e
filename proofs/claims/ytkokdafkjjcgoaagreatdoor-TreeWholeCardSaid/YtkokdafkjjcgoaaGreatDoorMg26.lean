/- Two parts and a mark between; a row of expressions; a type in brackets: the program. · A row of expressions; a type in brackets: the program. -/
import Derived.Test.YtkokdafkjjcgoaaGreatDoorPrinter
import Derived.StillTailTactics
import Derived.Deep.LoopGhost
namespace Go.Proofs.YtkokdafkjjcgoaaGreatDoor
open Go.RowKit

/-- the same, with the places of parts in a slice -/
def PutsL (pb : Nat) (a : Option Addr) (t : List Nd) (b : Option Addr) (fr : List Nat) (f : FuncId) (args : Array Value) (la : Option Addr) (P : List Nat) (L : List Tok) : Prop :=
  ∀ (W : List ByteArray) (w : World), PapAt pb W w → PrOk pb a t b fr w → SlS 1 natCells pb w la P → W.length + L.length < 1000000000000 → Calls Tryz.prog f args w (PutEnd pb (W ++ L.map wordV) w)
theorem nats_atP {B : Nat} {w : World} {a : Option Addr} {L : List Nat} (h : IsSl 1 natCells B w a L) {i : Nat} (hi : i < L.length) : ∃ b off, a = some ⟨b, off, none⟩ ∧ w.cell? ⟨b, off + i, none⟩ = some (.int .i64 (L[i] : Int)) := by
  obtain ⟨b, off, h1, _, h2⟩ := nats_at h hi
  exact ⟨b, off, h1, h2⟩
set_option maxRecDepth 100000 in
set_option maxHeartbeats 4000000 in
theorem infix_ok {pb : Nat} {a b la : Option Addr} {cap capb n lc : Nat} {t : List Nd} {fr P : List Nat} (hn1 : 2 ≤ n) (hn2 : n ≤ P.length) {p q : Nat} (hp : P[0]? = some p) (hq : P[1]? = some q) (left right : Int) (mark : ByteArray) {A B : List Tok}
    (hA : Puts pb a t b fr 98 #[prV pb a t.length cap b fr.length capb, .int .i64 (p : Int), .int .i64 left] A)
    (hB : Puts pb a t b fr 98 #[prV pb a t.length cap b fr.length capb, .int .i64 (q : Int), .int .i64 right] B) :
    PutsL pb a t b fr 99 #[prV pb a t.length cap b fr.length capb, .slice la n lc, .int .i64 left, .string mark, .int .i64 right] la P (A ++ tkM mark :: B) := by
  intro W w hP hO hL hn
  have HA := Lib.hid hA
  have HB := Lib.hid hB
  have HS0 := Lib.hid (fun w1 h => PrSt.start (cap := cap) (capb := capb) (w1 := w1) hP hO h)
  have HL := Lib.hid (fun w1 (hk : KeepP pb w w1) => (show ∃ b off, la = some ⟨b, off, none⟩ ∧ w1.cell? ⟨b, off, none⟩ = some (.int .i64 (p : Int)) ∧ w1.cell? ⟨b, off + 1, none⟩ = some (.int .i64 (q : Int)) from by
    have h := (hL.kept hP.rowOk hk).sl
    obtain ⟨b1, o1, e1, c1⟩ := nats_atP h (i := 0) (by omega)
    obtain ⟨b2, o2, e2, c2⟩ := nats_atP h (i := 1) (by omega)
    rw [e1] at e2
    simp only [Option.some.injEq, Addr.mk.injEq] at e2
    obtain ⟨rfl, rfl, _⟩ := e2
    rw [List.getElem?_eq_getElem (by omega)] at hp hq
    rw [Option.some.inj hp, Nat.add_zero] at c1
    rw [Option.some.inj hq] at c2
    exact ⟨b1, o1, e1, c1, c2⟩))
  simp only [List.length_cons, List.length_append] at hn
  have hn3 : 0 < n := by omega
  have hn4 : 1 < n := by omega
  have hn5 : (1 : Int) < (n : Int) := by omega
  have hn6 : ¬ (n : Int) ≤ 1 := by omega
  clear hP hO hA hB hL hp hq
  go_enter Tryz.func99, Tryz.ntmps99
  go_upto_region 1 with fail
  generalize hg1 : w.alloc _ = w1 at *
  have HS1 := Lib.hid (HS0.out w1 rfl)
  clear hg1 HS0
  obtain ⟨y0, y1, y2⟩ := HS1.out.cells
  obtain ⟨bb, oo, ha, x0, x1⟩ := HL.out w1 HS1.out.keep
  subst ha
  go_still_tail 5, (by kernel_rfl)
  change wpList _ _ _ _ _ w1.drew
  have HS2 := Lib.hid (HS1.out.below ((Below.refl _ w1).drew))
  go_upto_region 2 with (go_at_call 98; (refine (HS2.out.call HA.out (by omega)).mono ?_); rintro e w3 ⟨rfl, hs⟩; have HS3 := Lib.hid hs; clear hs; obtain ⟨z0, z1, z2⟩ := HS3.out.cells)
  go_upto_region 3 with (go_at_call 96; (refine (HS3.out.put1 mark (by simp; omega)).mono ?_); rintro e w4 ⟨rfl, hs⟩; have HS4 := Lib.hid hs; clear hs)
  obtain ⟨z0, z1, z2⟩ := HS4.out.cells
  obtain ⟨b5, o5, ha, x2, x3⟩ := HL.out w4 HS4.out.keep
  simp only [Option.some.injEq, Addr.mk.injEq] at ha
  obtain ⟨rfl, rfl, _⟩ := ha
  go_still_tail 5, (by kernel_rfl)
  change wpList _ _ _ _ _ w4.drew
  have HS5 := Lib.hid (HS4.out.below ((Below.refl _ w4).drew))
  go_wp2_with (go_at_call 98; (refine (HS5.out.call HB.out (by simp; omega)).mono ?_); rintro e w6 ⟨rfl, hs⟩; have HS6 := Lib.hid hs; clear hs)
  go_end0
  have := HS6.out.end_
  simpa [word_M] using this
end Go.Proofs.YtkokdafkjjcgoaaGreatDoor
namespace Go.Proofs.YtkokdafkjjcgoaaGreatDoor
open Go.RowKit

theorem declared_puts {pb : Nat} {a b : Option Addr} {t : List Nd} {fr : List Nat} (s name : ByteArray) : Puts pb a t b fr 114 #[.pointer (some ⟨pb, 0, none⟩), .string s, .string name] (declK s name) := fun W w hP hO hn => declared9_ok pb W s name w hP hO.env hn
theorem token_puts {pb : Nat} {a b : Option Addr} {t : List Nd} {fr : List Nat} {x : Tok} (hx : goodB x = true) : Puts pb a t b fr 95 #[.pointer (some ⟨pb, 0, none⟩), tokV x] [x] := fun W w hP hO hn => token_ok pb W x w hP hO.env hx (by simp only [List.length_singleton] at hn; omega)
set_option maxRecDepth 100000 in
set_option maxHeartbeats 4000000 in
theorem bracketed_puts {pb : Nat} {a b : Option Addr} {cap capb : Nat} {t : List Nd} {fr : List Nat} (s : ByteArray) : Puts pb a t b fr 101 #[prV pb a t.length cap b fr.length capb, .string s] (brkT s) := by
  intro W w hP hO hn
  have HD := Lib.hid (declared_puts (pb := pb) (a := a) (b := b) (t := t) (fr := fr) s ⟨#[]⟩)
  have HS0 := Lib.hid (fun w1 h => PrSt.start (cap := cap) (capb := capb) (w1 := w1) hP hO h)
  unfold brkT at hn ⊢
  generalize declK s ⟨#[]⟩ = L at *
  simp only [List.length_cons, List.length_append, List.length_nil] at hn
  clear hP hO
  go_enter Tryz.func101, Tryz.ntmps101
  go_upto_region 1 with fail
  generalize hg1 : w.alloc _ = w1 at *
  have HS1 := Lib.hid (HS0.out w1 rfl)
  clear hg1 HS0
  obtain ⟨z0, z1, z2⟩ := HS1.out.cells
  go_wp2_with (first
    | (go_at_call 96; (refine (HS3.out.put1 ⟨#[41]⟩ (by simp; omega)).mono ?_); rintro e w5 ⟨rfl, hs⟩; have HS4 := Lib.hid hs; clear hs)
    | (go_at_call 96; (refine (HS1.out.put1 ⟨#[40]⟩ (by omega)).mono ?_); rintro e w3 ⟨rfl, hs⟩; have HS2 := Lib.hid hs; clear hs; obtain ⟨z0, z1, z2⟩ := HS2.out.cells)
    | (go_at_call 114; (refine (HS2.out.call HD.out (by simp; omega)).mono ?_); rintro e w4 ⟨rfl, hs⟩; have HS3 := Lib.hid hs; clear hs; obtain ⟨z0, z1, z2⟩ := HS3.out.cells))
  go_end0
  simpa [word_M] using HS4.out.end_
theorem rowF_le (l : List Nat) (f : Nat → List Tok) (i : Nat) : ∀ n, i ≤ n → (rowF l f i).length ≤ (rowF l f n).length
  | 0, h => by obtain rfl : i = 0 := by omega
               exact Nat.le_refl _
  | n + 1, h => by
    rcases Nat.lt_or_ge n i with h1 | h1
    · obtain rfl : i = n + 1 := by omega
      exact Nat.le_refl _
    · rw [rowF_next, List.length_append]
      have := rowF_le l f i n h1
      omega
set_option maxRecDepth 100000 in
set_option maxHeartbeats 4000000 in
theorem row_ok {pb : Nat} {a b la : Option Addr} {cap capb lc : Nat} {t : List Nd} {fr P : List Nat} {F : Nat → List Tok} (hPl : P.length ≤ 4096)
    (hA : ∀ p ∈ P, Puts pb a t b fr 98 #[prV pb a t.length cap b fr.length capb, .int .i64 (p : Int), .int .i64 2] (F p)) :
    PutsL pb a t b fr 142 #[prV pb a t.length cap b fr.length capb, .slice la P.length lc] la P (rowF P F P.length) := by
  intro W w hP hO hL hn
  have HA := Lib.hid hA
  have HS0 := Lib.hid (fun w1 h => PrSt.start (cap := cap) (capb := capb) (w1 := w1) hP hO h)
  have HL := Lib.hid (fun w1 (hk : KeepP pb w w1) i (hi : i < P.length) => nats_atP (hL.kept hP.rowOk hk).sl hi)
  clear hP hO hA hL
  go_enter Tryz.func142, Tryz.ntmps142
  go_upto_region 1 with fail
  generalize hg1 : w.alloc _ = w1 at *
  have HS1 := Lib.hid (HS0.out w1 rfl)
  clear hg1 HS0
  go_wp2_with fail
  go_loopg [8] P.length (fun g v wr => ∃ i : Nat, i ≤ P.length ∧ i + g = P.length ∧ v = .int .i64 (i : Int) ∧ Hid (PrSt pb a cap t b capb fr w.heap.size w (W ++ (rowF P F i).map wordV) wr))
  case atStart => exact ⟨0, Nat.zero_le _, by omega, rfl, Lib.hid (by simpa [rowF] using HS1.out)⟩
  case round =>
    obtain ⟨i, hi, hig, rfl, HSr⟩ := hrel
    by_cases hlt : i < P.length
    · obtain ⟨bb, oo, ha, c0⟩ := HL.out wr HSr.out.keep i hlt
      subst ha
      have hb := rowF_le P F (i + 1) P.length (by omega)
      have hx := rowF_next P F i
      rw [atF_is hlt] at hx
      have HQ := Lib.hid (HA.out P[i] (List.getElem_mem hlt))
      have hb' := congrArg List.length hx
      simp only [List.length_append] at hb'
      have HX := Lib.hid hx
      generalize P[i] = p at *
      generalize F p = L at *
      obtain ⟨z0, z1, z2⟩ := HSr.out.cells
      refine Or.elim (Classical.em (0 < i)) (fun h0 => ?a1) (fun h0 => ?b1)
      case' a1 =>
        have t1 : decide ((0 : Int) < (i : Int)) = true := by simpa using h0
        rw [if_pos h0] at HX hb'
        simp only [List.length_singleton] at hb'
      case' b1 =>
        have t1 : decide ((0 : Int) < (i : Int)) = false := by simpa using h0
        rw [if_neg h0] at HX hb'
        simp only [List.length_nil] at hb'
      all_goals
        clear hx
        go_wp2_with (first
          | (go_at_call 96; (refine (HSr.out.put1 ⟨#[44]⟩ (by simp; omega)).mono ?_); rintro e w3 ⟨rfl, hs⟩; have HS2 := Lib.hid hs; clear hs; obtain ⟨z0, z1, z2⟩ := HS2.out.cells)
          | (go_at_call 98; (refine (HS2.out.call HQ.out (by simp; omega)).mono ?_); rintro e w4 ⟨rfl, hs⟩; have HS3 := Lib.hid hs; clear hs)
          | (go_at_call 98; (refine (HSr.out.call HQ.out (by simp; omega)).mono ?_); rintro e w4 ⟨rfl, hs⟩; have HS3 := Lib.hid hs; clear hs))
        go_roundg (P.length - (i + 1))
        case measure => omega
        case rel => exact ⟨i + 1, by omega, by omega, by rw [Int.natCast_add]; rfl, Lib.hid (by rw [HX.out]; simpa [word_M] using HS3.out)⟩
    · obtain rfl : i = P.length := by omega
      go_wp2_with fail
      go_end0
      exact HSr.out.end_
end Go.Proofs.YtkokdafkjjcgoaaGreatDoor
