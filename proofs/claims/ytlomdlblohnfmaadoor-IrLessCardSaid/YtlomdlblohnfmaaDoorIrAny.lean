/- slices.ContainsFunc at bytes, numbers, operations and blocks, for any predicate that is handed over. -/
import Derived.Test.YtlomdlblohnfmaaDoorIrMem
import Derived.Deep.LoopGhost
import Derived.Shelf.Abstract
namespace Go.Proofs.YtlomdlblohnfmaaDoor
open Go.RowKit

def byteCells1 (c : UInt8) : List Value := [.int .u8 (c.toNat : Int)]
def intV (n : Int) : Value := .int .i64 n
def byteV (c : UInt8) : Value := .int .u8 (c.toNat : Int)
def opVal (q : IrO × Value) : Value := .agg #[.int .i64 q.1.kind, .int .i64 q.1.d, .int .i64 q.1.a, .int .i64 q.1.b, .int .i64 q.1.imm, .string q.1.text, q.2]
def blkVal (q : IrB × Value) : Value := .agg #[q.2, .int .i64 q.1.exit.kind, .int .i64 q.1.exit.a, .int .i64 q.1.exit.d, .int .i64 q.1.exit.to, .int .i64 q.1.exit.els]
/-- a predicate that is handed over: what is asked of it, at the elements of a list -/
def Tells (P : Program) (g : Nat) (lb : Array Value) {α : Type} (enc : α → Value) (p : α → Bool) (L : List α) (w : World) : Prop :=
  ∀ (W : World) (x : α), x ∈ L → Below w.heap.size w W → Calls P g (#[enc x] ++ lb) W fun e w' => e = .returned (.bool (p x)) ∧ Below W.heap.size W w'
theorem anyL_hit {α : Type} {p : α → Bool} {L : List α} {k : Nat} (h : k < L.length) (hp : p L[k] = true) : L.any p = true := by
  rw [List.any_eq_true]; exact ⟨L[k], List.getElem_mem h, hp⟩
theorem anyL_miss {α : Type} {p : α → Bool} {L : List α} (h : ∀ j (hj : j < L.length), p L[j] = false) : L.any p = false := by
  rw [List.any_eq_false]
  intro m hm
  obtain ⟨j, hj, rfl⟩ := List.getElem_of_mem hm
  rw [h j hj]
  simp

set_option maxRecDepth 100000 in
set_option maxHeartbeats 2000000 in
theorem idx_int (g : Nat) (lb : Array Value) (eg : ∀ args w, (callFunc g args).run Tryd.prog w = .ok (.enter g args) w) (p : Int → Bool) (a : Option Addr) (cap : Nat) (L : List (Int)) (w : World) (hs : IsSl 1 intCells w.heap.size w a L) (hp : Tells Tryd.prog g lb intV p L w) (hl : (L.length : Int) ≤ 9223372036854775807) :
    Calls Tryd.prog 75 #[.slice a L.length cap, .func (.func g) #[] lb] w fun e w' => ∃ o : Int, e = .returned (.int .i64 o) ∧ decide (0 ≤ o) = L.any p ∧ Below w.heap.size w w' := by
  have HS := Lib.hid hs
  have HP := Lib.hid hp
  clear hs hp
  go_enter Tryd.func75, Tryd.ntmps75
  go_wp2_with fail
  go_loopg [8] L.length (fun g v8 wy => ∃ k : Nat, k ≤ L.length ∧ k + g = L.length ∧ v8 = .int .i64 (k : Int) ∧ Hid (∀ j (hj : j < L.length), j < k → p L[j] = false) ∧ Hid (Below w.heap.size w wy))
  case atStart => exact ⟨0, by omega, by omega, rfl, fun j _ h => by omega, Below.refl _ _⟩
  case round =>
    obtain ⟨k, hk, hkg, rfl, hno, HB⟩ := hrel
    by_cases hlk : k < L.length
    · obtain ⟨bb, off, ha, hbl, hrow⟩ := HS.out (fun e => by rw [e] at hlk; simp at hlk)
      subst ha
      have e0 := hrow k _ (List.getElem?_eq_getElem hlk) 0 _ rfl
      rw [← HB.out.cell hbl] at e0
      simp only [Nat.mul_one, Nat.add_zero] at e0
      have hc := HP.out wr L[k] (List.getElem_mem hlk) HB.out
      rcases h : p L[k] with _ | _
      · have HN := Lib.hid (show ∀ j (hj : j < L.length), j < k + 1 → p L[j] = false from fun j hj hjk => by
          rcases Nat.lt_or_ge j k with h' | h'
          · exact hno.out j hj h'
          · obtain rfl : j = k := by omega
            exact h)
        rw [h] at hc
        have HC := Lib.hid hc
        clear h hrow hno hc
        generalize L[k]'hlk = x at *
        unfold intV at HC
        go_wp2_with (go_at_fn g; (with_reducible refine HC.out.mono ?_); rintro e w2 ⟨rfl, hb2⟩; have HB2 := Lib.hid (HB.out.trans (hb2.mono HB.out.size)); clear hb2)
        go_roundg (L.length - (k + 1))
        case measure => omega
        case rel => exact ⟨k + 1, by omega, by omega, by rw [Int.natCast_add]; rfl, HN.out, HB2.out⟩
      · have hfin := Lib.hid (anyL_hit hlk h)
        rw [h] at hc
        have HC := Lib.hid hc
        clear h hrow hno hc
        generalize L[k]'hlk = x at *
        unfold intV at HC
        go_wp2_with (go_at_fn g; (with_reducible refine HC.out.mono ?_); rintro e w2 ⟨rfl, hb2⟩; have HB2 := Lib.hid hb2; clear hb2)
        go_ret
        exact ⟨_, rfl, by rw [hfin.out]; simp, HB.out.trans (HB2.out.mono HB.out.size)⟩
    · obtain rfl : k = L.length := by omega
      have hfin := Lib.hid (anyL_miss fun j hj => hno.out j hj hj)
      clear hno hlk
      have t3 : (L.length : Int) ≤ (L.length : Int) := Int.le_refl _
      go_wp2_with fail
      go_ret
      exact ⟨_, rfl, by rw [hfin.out]; rfl, HB.out⟩
theorem any_int (g : Nat) (lb : Array Value) (eg : ∀ args w, (callFunc g args).run Tryd.prog w = .ok (.enter g args) w) (p : Int → Bool) (r : Bool) (a : Option Addr) (cap : Nat) (L : List (Int)) (w : World) (hs : IsSl 1 intCells w.heap.size w a L) (hp : Tells Tryd.prog g lb intV p L w) (hl : (L.length : Int) ≤ 9223372036854775807) (hr : L.any p = r) :
    Calls Tryd.prog 48 #[.slice a L.length cap, .func (.func g) #[] lb] w fun e w' => e = .returned (.bool r) ∧ Below w.heap.size w w' := by
  subst hr
  have H := Lib.hid (idx_int g lb eg p a cap L w hs hp hl)
  clear hs hp hl eg
  go_enter Tryd.func48, Tryd.ntmps48
  go_wp2_with (go_at_call 75; (with_reducible refine H.out.mono ?_); rintro e w1 ⟨o, rfl, ho, hb1⟩; have HO := Lib.hid ho; clear ho)
  go_ret
  exact ⟨by rw [← HO.out]; rfl, hb1⟩

set_option maxRecDepth 100000 in
set_option maxHeartbeats 2000000 in
theorem idx_byte (g : Nat) (lb : Array Value) (eg : ∀ args w, (callFunc g args).run Tryd.prog w = .ok (.enter g args) w) (p : UInt8 → Bool) (a : Option Addr) (cap : Nat) (L : List (UInt8)) (w : World) (hs : IsSl 1 byteCells1 w.heap.size w a L) (hp : Tells Tryd.prog g lb byteV p L w) (hl : (L.length : Int) ≤ 9223372036854775807) :
    Calls Tryd.prog 61 #[.slice a L.length cap, .func (.func g) #[] lb] w fun e w' => ∃ o : Int, e = .returned (.int .i64 o) ∧ decide (0 ≤ o) = L.any p ∧ Below w.heap.size w w' := by
  have HS := Lib.hid hs
  have HP := Lib.hid hp
  clear hs hp
  go_enter Tryd.func61, Tryd.ntmps61
  go_wp2_with fail
  go_loopg [8] L.length (fun g v8 wy => ∃ k : Nat, k ≤ L.length ∧ k + g = L.length ∧ v8 = .int .i64 (k : Int) ∧ Hid (∀ j (hj : j < L.length), j < k → p L[j] = false) ∧ Hid (Below w.heap.size w wy))
  case atStart => exact ⟨0, by omega, by omega, rfl, fun j _ h => by omega, Below.refl _ _⟩
  case round =>
    obtain ⟨k, hk, hkg, rfl, hno, HB⟩ := hrel
    by_cases hlk : k < L.length
    · obtain ⟨bb, off, ha, hbl, hrow⟩ := HS.out (fun e => by rw [e] at hlk; simp at hlk)
      subst ha
      have e0 := hrow k _ (List.getElem?_eq_getElem hlk) 0 _ rfl
      rw [← HB.out.cell hbl] at e0
      simp only [Nat.mul_one, Nat.add_zero] at e0
      have hc := HP.out wr L[k] (List.getElem_mem hlk) HB.out
      rcases h : p L[k] with _ | _
      · have HN := Lib.hid (show ∀ j (hj : j < L.length), j < k + 1 → p L[j] = false from fun j hj hjk => by
          rcases Nat.lt_or_ge j k with h' | h'
          · exact hno.out j hj h'
          · obtain rfl : j = k := by omega
            exact h)
        rw [h] at hc
        have HC := Lib.hid hc
        clear h hrow hno hc
        generalize L[k]'hlk = x at *
        unfold byteV at HC
        go_wp2_with (go_at_fn g; (with_reducible refine HC.out.mono ?_); rintro e w2 ⟨rfl, hb2⟩; have HB2 := Lib.hid (HB.out.trans (hb2.mono HB.out.size)); clear hb2)
        go_roundg (L.length - (k + 1))
        case measure => omega
        case rel => exact ⟨k + 1, by omega, by omega, by rw [Int.natCast_add]; rfl, HN.out, HB2.out⟩
      · have hfin := Lib.hid (anyL_hit hlk h)
        rw [h] at hc
        have HC := Lib.hid hc
        clear h hrow hno hc
        generalize L[k]'hlk = x at *
        unfold byteV at HC
        go_wp2_with (go_at_fn g; (with_reducible refine HC.out.mono ?_); rintro e w2 ⟨rfl, hb2⟩; have HB2 := Lib.hid hb2; clear hb2)
        go_ret
        exact ⟨_, rfl, by rw [hfin.out]; simp, HB.out.trans (HB2.out.mono HB.out.size)⟩
    · obtain rfl : k = L.length := by omega
      have hfin := Lib.hid (anyL_miss fun j hj => hno.out j hj hj)
      clear hno hlk
      have t3 : (L.length : Int) ≤ (L.length : Int) := Int.le_refl _
      go_wp2_with fail
      go_ret
      exact ⟨_, rfl, by rw [hfin.out]; rfl, HB.out⟩
theorem any_byte (g : Nat) (lb : Array Value) (eg : ∀ args w, (callFunc g args).run Tryd.prog w = .ok (.enter g args) w) (p : UInt8 → Bool) (r : Bool) (a : Option Addr) (cap : Nat) (L : List (UInt8)) (w : World) (hs : IsSl 1 byteCells1 w.heap.size w a L) (hp : Tells Tryd.prog g lb byteV p L w) (hl : (L.length : Int) ≤ 9223372036854775807) (hr : L.any p = r) :
    Calls Tryd.prog 39 #[.slice a L.length cap, .func (.func g) #[] lb] w fun e w' => e = .returned (.bool r) ∧ Below w.heap.size w w' := by
  subst hr
  have H := Lib.hid (idx_byte g lb eg p a cap L w hs hp hl)
  clear hs hp hl eg
  go_enter Tryd.func39, Tryd.ntmps39
  go_wp2_with (go_at_call 61; (with_reducible refine H.out.mono ?_); rintro e w1 ⟨o, rfl, ho, hb1⟩; have HO := Lib.hid ho; clear ho)
  go_ret
  exact ⟨by rw [← HO.out]; rfl, hb1⟩

set_option maxRecDepth 100000 in
set_option maxHeartbeats 2000000 in
theorem idx_op (g : Nat) (lb : Array Value) (eg : ∀ args w, (callFunc g args).run Tryd.prog w = .ok (.enter g args) w) (p : IrO × Value → Bool) (a : Option Addr) (cap : Nat) (L : List (IrO × Value)) (w : World) (hs : IsSl 7 opCells w.heap.size w a L) (hp : Tells Tryd.prog g lb opVal p L w) (hl : (L.length : Int) ≤ 9223372036854775807) :
    Calls Tryd.prog 63 #[.slice a L.length cap, .func (.func g) #[] lb] w fun e w' => ∃ o : Int, e = .returned (.int .i64 o) ∧ decide (0 ≤ o) = L.any p ∧ Below w.heap.size w w' := by
  have HS := Lib.hid hs
  have HP := Lib.hid hp
  clear hs hp
  go_enter Tryd.func63, Tryd.ntmps63
  go_wp2_with fail
  go_loopg [8] L.length (fun g v8 wy => ∃ k : Nat, k ≤ L.length ∧ k + g = L.length ∧ v8 = .int .i64 (k : Int) ∧ Hid (∀ j (hj : j < L.length), j < k → p L[j] = false) ∧ Hid (Below w.heap.size w wy))
  case atStart => exact ⟨0, by omega, by omega, rfl, fun j _ h => by omega, Below.refl _ _⟩
  case round =>
    obtain ⟨k, hk, hkg, rfl, hno, HB⟩ := hrel
    by_cases hlk : k < L.length
    · obtain ⟨bb, off, ha, hbl, hrow⟩ := HS.out (fun e => by rw [e] at hlk; simp at hlk)
      subst ha
      have e0 := hrow k _ (List.getElem?_eq_getElem hlk) 0 _ rfl
      have e1 := hrow k _ (List.getElem?_eq_getElem hlk) 1 _ rfl
      have e2 := hrow k _ (List.getElem?_eq_getElem hlk) 2 _ rfl
      have e3 := hrow k _ (List.getElem?_eq_getElem hlk) 3 _ rfl
      have e4 := hrow k _ (List.getElem?_eq_getElem hlk) 4 _ rfl
      have e5 := hrow k _ (List.getElem?_eq_getElem hlk) 5 _ rfl
      have e6 := hrow k _ (List.getElem?_eq_getElem hlk) 6 _ rfl
      rw [← HB.out.cell hbl] at e0 e1 e2 e3 e4 e5 e6
      simp only [Nat.add_zero] at e0
      have hc := HP.out wr L[k] (List.getElem_mem hlk) HB.out
      rcases h : p L[k] with _ | _
      · have HN := Lib.hid (show ∀ j (hj : j < L.length), j < k + 1 → p L[j] = false from fun j hj hjk => by
          rcases Nat.lt_or_ge j k with h' | h'
          · exact hno.out j hj h'
          · obtain rfl : j = k := by omega
            exact h)
        rw [h] at hc
        have HC := Lib.hid hc
        clear h hrow hno hc
        generalize L[k]'hlk = x at *
        unfold opVal at HC
        go_wp2_with (go_at_fn g; (with_reducible refine HC.out.mono ?_); rintro e w2 ⟨rfl, hb2⟩; have HB2 := Lib.hid (HB.out.trans (hb2.mono HB.out.size)); clear hb2)
        go_roundg (L.length - (k + 1))
        case measure => omega
        case rel => exact ⟨k + 1, by omega, by omega, by rw [Int.natCast_add]; rfl, HN.out, HB2.out⟩
      · have hfin := Lib.hid (anyL_hit hlk h)
        rw [h] at hc
        have HC := Lib.hid hc
        clear h hrow hno hc
        generalize L[k]'hlk = x at *
        unfold opVal at HC
        go_wp2_with (go_at_fn g; (with_reducible refine HC.out.mono ?_); rintro e w2 ⟨rfl, hb2⟩; have HB2 := Lib.hid hb2; clear hb2)
        go_ret
        exact ⟨_, rfl, by rw [hfin.out]; simp, HB.out.trans (HB2.out.mono HB.out.size)⟩
    · obtain rfl : k = L.length := by omega
      have hfin := Lib.hid (anyL_miss fun j hj => hno.out j hj hj)
      clear hno hlk
      have t3 : (L.length : Int) ≤ (L.length : Int) := Int.le_refl _
      go_wp2_with fail
      go_ret
      exact ⟨_, rfl, by rw [hfin.out]; rfl, HB.out⟩
theorem any_op (g : Nat) (lb : Array Value) (eg : ∀ args w, (callFunc g args).run Tryd.prog w = .ok (.enter g args) w) (p : IrO × Value → Bool) (r : Bool) (a : Option Addr) (cap : Nat) (L : List (IrO × Value)) (w : World) (hs : IsSl 7 opCells w.heap.size w a L) (hp : Tells Tryd.prog g lb opVal p L w) (hl : (L.length : Int) ≤ 9223372036854775807) (hr : L.any p = r) :
    Calls Tryd.prog 43 #[.slice a L.length cap, .func (.func g) #[] lb] w fun e w' => e = .returned (.bool r) ∧ Below w.heap.size w w' := by
  subst hr
  have H := Lib.hid (idx_op g lb eg p a cap L w hs hp hl)
  clear hs hp hl eg
  go_enter Tryd.func43, Tryd.ntmps43
  go_wp2_with (go_at_call 63; (with_reducible refine H.out.mono ?_); rintro e w1 ⟨o, rfl, ho, hb1⟩; have HO := Lib.hid ho; clear ho)
  go_ret
  exact ⟨by rw [← HO.out]; rfl, hb1⟩

set_option maxRecDepth 100000 in
set_option maxHeartbeats 2000000 in
theorem idx_blk (g : Nat) (lb : Array Value) (eg : ∀ args w, (callFunc g args).run Tryd.prog w = .ok (.enter g args) w) (p : IrB × Value → Bool) (a : Option Addr) (cap : Nat) (L : List (IrB × Value)) (w : World) (hs : IsSl 6 blkCells w.heap.size w a L) (hp : Tells Tryd.prog g lb blkVal p L w) (hl : (L.length : Int) ≤ 9223372036854775807) :
    Calls Tryd.prog 82 #[.slice a L.length cap, .func (.func g) #[] lb] w fun e w' => ∃ o : Int, e = .returned (.int .i64 o) ∧ decide (0 ≤ o) = L.any p ∧ Below w.heap.size w w' := by
  have HS := Lib.hid hs
  have HP := Lib.hid hp
  clear hs hp
  go_enter Tryd.func82, Tryd.ntmps82
  go_wp2_with fail
  go_loopg [8] L.length (fun g v8 wy => ∃ k : Nat, k ≤ L.length ∧ k + g = L.length ∧ v8 = .int .i64 (k : Int) ∧ Hid (∀ j (hj : j < L.length), j < k → p L[j] = false) ∧ Hid (Below w.heap.size w wy))
  case atStart => exact ⟨0, by omega, by omega, rfl, fun j _ h => by omega, Below.refl _ _⟩
  case round =>
    obtain ⟨k, hk, hkg, rfl, hno, HB⟩ := hrel
    by_cases hlk : k < L.length
    · obtain ⟨bb, off, ha, hbl, hrow⟩ := HS.out (fun e => by rw [e] at hlk; simp at hlk)
      subst ha
      have e0 := hrow k _ (List.getElem?_eq_getElem hlk) 0 _ rfl
      have e1 := hrow k _ (List.getElem?_eq_getElem hlk) 1 _ rfl
      have e2 := hrow k _ (List.getElem?_eq_getElem hlk) 2 _ rfl
      have e3 := hrow k _ (List.getElem?_eq_getElem hlk) 3 _ rfl
      have e4 := hrow k _ (List.getElem?_eq_getElem hlk) 4 _ rfl
      have e5 := hrow k _ (List.getElem?_eq_getElem hlk) 5 _ rfl
      rw [← HB.out.cell hbl] at e0 e1 e2 e3 e4 e5
      simp only [Nat.add_zero] at e0
      have hc := HP.out wr L[k] (List.getElem_mem hlk) HB.out
      rcases h : p L[k] with _ | _
      · have HN := Lib.hid (show ∀ j (hj : j < L.length), j < k + 1 → p L[j] = false from fun j hj hjk => by
          rcases Nat.lt_or_ge j k with h' | h'
          · exact hno.out j hj h'
          · obtain rfl : j = k := by omega
            exact h)
        rw [h] at hc
        have HC := Lib.hid hc
        clear h hrow hno hc
        generalize L[k]'hlk = x at *
        unfold blkVal at HC
        go_wp2_with (go_at_fn g; (with_reducible refine HC.out.mono ?_); rintro e w2 ⟨rfl, hb2⟩; have HB2 := Lib.hid (HB.out.trans (hb2.mono HB.out.size)); clear hb2)
        go_roundg (L.length - (k + 1))
        case measure => omega
        case rel => exact ⟨k + 1, by omega, by omega, by rw [Int.natCast_add]; rfl, HN.out, HB2.out⟩
      · have hfin := Lib.hid (anyL_hit hlk h)
        rw [h] at hc
        have HC := Lib.hid hc
        clear h hrow hno hc
        generalize L[k]'hlk = x at *
        unfold blkVal at HC
        go_wp2_with (go_at_fn g; (with_reducible refine HC.out.mono ?_); rintro e w2 ⟨rfl, hb2⟩; have HB2 := Lib.hid hb2; clear hb2)
        go_ret
        exact ⟨_, rfl, by rw [hfin.out]; simp, HB.out.trans (HB2.out.mono HB.out.size)⟩
    · obtain rfl : k = L.length := by omega
      have hfin := Lib.hid (anyL_miss fun j hj => hno.out j hj hj)
      clear hno hlk
      have t3 : (L.length : Int) ≤ (L.length : Int) := Int.le_refl _
      go_wp2_with fail
      go_ret
      exact ⟨_, rfl, by rw [hfin.out]; rfl, HB.out⟩
theorem any_blk (g : Nat) (lb : Array Value) (eg : ∀ args w, (callFunc g args).run Tryd.prog w = .ok (.enter g args) w) (p : IrB × Value → Bool) (r : Bool) (a : Option Addr) (cap : Nat) (L : List (IrB × Value)) (w : World) (hs : IsSl 6 blkCells w.heap.size w a L) (hp : Tells Tryd.prog g lb blkVal p L w) (hl : (L.length : Int) ≤ 9223372036854775807) (hr : L.any p = r) :
    Calls Tryd.prog 64 #[.slice a L.length cap, .func (.func g) #[] lb] w fun e w' => e = .returned (.bool r) ∧ Below w.heap.size w w' := by
  subst hr
  have H := Lib.hid (idx_blk g lb eg p a cap L w hs hp hl)
  clear hs hp hl eg
  go_enter Tryd.func64, Tryd.ntmps64
  go_wp2_with (go_at_call 82; (with_reducible refine H.out.mono ?_); rintro e w1 ⟨o, rfl, ho, hb1⟩; have HO := Lib.hid ho; clear ho)
  go_ret
  exact ⟨by rw [← HO.out]; rfl, hb1⟩
end Go.Proofs.YtlomdlblohnfmaaDoor

