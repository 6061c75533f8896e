/- Structs that are known, as they stand in the world; a struct's place. -/
import Derived.Test.YtmmjmppfmjejkaaGreatDoorShape2
import Derived.Maps.OwnSet
import Derived.Maps.OwnOps
namespace Go.Proofs.YtmmjmppfmjejkaaGreatDoor
open Go.RowKit Go.Maps

theorem keyedS : Keyed Tryz.prog 9 := string_keyed Tryz.underlying9
theorem zeroI (w : World) : (zeroValue 3).run Tryz.prog w = .ok (.int .i64 0) w := by kernel_rfl
/-- what a look-up of a name gives -/
def lookV (K : List Kn) (s : List UInt8) : Int × Bool := match findK K s with
  | some i => ((i : Nat), true)
  | none => (0, false)
/-- a map from names to places, in block b -/
def NamesAt (w : World) (b : Nat) (K : List Kn) : Prop := ∃ D : DataW Unit, w.ownsMap Tryz.prog 9 (plainElem Tryz.prog 3) b K.length D ∧
  ∀ s : List UInt8, has D (.string s) = (lookV K s).2 ∧ D.atKey (.string s) (.lit (.int .i64 0)) = .lit (.int .i64 (lookV K s).1)
theorem NamesAt.look {w : World} {b : Nat} {K : List Kn} (h : NamesAt w b K) {s : ByteArray} (hs : s.size ≤ maxLen) :
    (Instr.lookup 79 (.map (some b)) (.string s) true).run Tryz.prog w = .ok (.tuple #[.int .i64 (lookV K s.data.toList).1, .bool (lookV K s.data.toList).2]) w := by
  obtain ⟨D, hD, hv⟩ := h
  have hkey := Go.WideMaps.keyOf_string_mk (P := Tryz.prog) Tryz.underlying9 hs
  obtain ⟨v, ps, hrun, hR⟩ := hD.look_ok keyedS Tryz.underlying79 (zeroI w) (plainElem_int (H := Unit) Tryz.underlying3 (by decide)) hkey
  obtain ⟨h1, h2⟩ := hv s.data.toList
  rw [h1] at hrun
  rw [h2] at hR
  obtain ⟨c, rfl, hc, _⟩ := plainElem_int_inv Tryz.underlying3 hR
  have := congrArg Prod.fst hc
  simp only [DataW.lit.injEq, Lit.int.injEq, true_and] at this
  rw [this]; exact hrun
theorem NamesAt.drewN {w : World} {b : Nat} {K : List Kn} (h : NamesAt w b K) (n : Nat) : NamesAt (w.drewN n) b K := h
theorem NamesAt.below {w w' : World} {b : Nat} {K : List Kn} (h : NamesAt w b K) (hb : Below w.heap.size w w') : NamesAt w' b K := by
  obtain ⟨D, hD, hv⟩ := h
  exact ⟨D, hD.kept (row := none) ⟨hb.os, hb.tape, hb.output, hb.size, fun k hk _ => hb.block k hk⟩ (by simp), hv⟩

/-- the structs that are known, in block b: B: below it nothing is theirs -/
structure KnAt (B : Nat) (w : World) (b mb : Nat) (lv sv av : Value) (mv : List Value) (K : List Kn) : Prop where
  blk : w.heap[b]? = some (.cells #[lv, .map (some mb), sv, av] 82 (0, 0))
  base : B ≤ b ∧ B ≤ mb ∧ b ≠ mb
  names : NamesAt w mb K
  sizes : w.ownsRow B 3 1 sv K.length (K.map fun k => .int .i64 (k.size : Int))
  aligns : w.ownsRow B 3 1 av K.length (K.map fun k => .int .i64 (k.align : Int))
  list : w.ownsRow B 52 2 lv K.length ((K.zip mv).flatMap fun q => [.string q.1.name, q.2])
  mems : mv.length = K.length
  apart : ∀ k, (sv.ownBlock = some k → k ≠ b ∧ k ≠ mb ∧ av.ownBlock ≠ some k ∧ lv.ownBlock ≠ some k) ∧ (av.ownBlock = some k → k ≠ b ∧ k ≠ mb ∧ lv.ownBlock ≠ some k) ∧ (lv.ownBlock = some k → k ≠ b ∧ k ≠ mb)
theorem KnAt.below {B b mb : Nat} {w w' : World} {lv sv av : Value} {mv : List Value} {K : List Kn} (h : KnAt B w b mb lv sv av mv K) (hb : Below w.heap.size w w') : KnAt B w' b mb lv sv av mv K :=
  ⟨by rw [hb.block b (lt_of_heap h.blk)]; exact h.blk, h.base, h.names.below hb, h.sizes.belowed hb, h.aligns.belowed hb, h.list.belowed hb, h.mems, h.apart⟩
theorem KnAt.drewN {B b mb : Nat} {w : World} {lv sv av : Value} {mv : List Value} {K : List Kn} (h : KnAt B w b mb lv sv av mv K) (n : Nat) : KnAt B (w.drewN n) b mb lv sv av mv K := h.below (Below.drewN' w n)
theorem KnAt.cells {B b mb : Nat} {w : World} {lv sv av : Value} {mv : List Value} {K : List Kn} (h : KnAt B w b mb lv sv av mv K) : w.cell? ⟨b, 0, none⟩ = some lv ∧ w.cell? ⟨b, 1, none⟩ = some (.map (some mb)) ∧ w.cell? ⟨b, 2, none⟩ = some sv ∧ w.cell? ⟨b, 3, none⟩ = some av := by
  refine ⟨?_, ?_, ?_, ?_⟩ <;> simp [World.cell?, h.blk]

/-- a struct's place, as the program tells it -/
def placeK (K : List Kn) (s : List UInt8) : Int := match findK K s with
  | some i => (i : Nat)
  | none => -1
theorem look_place (K : List Kn) (s : List UInt8) : (lookV K s).2 = (findK K s).isSome ∧ placeK K s = if (lookV K s).2 = true then (lookV K s).1 else -1 := by
  unfold lookV placeK
  cases findK K s <;> simp
set_option maxHeartbeats 1000000 in
theorem structOf_ok (n : List UInt8) {B b mb : Nat} {w : World} {lv sv av : Value} {mv : List Value} {K : List Kn} (h : KnAt B w b mb lv sv av mv K) (hl : (code (.str n)).length ≤ 65536) :
    Calls Tryz.prog 82 #[.pointer (some ⟨b, 0, none⟩), .string (tyB (.str n))] w fun e w' => e = .returned (.int .i64 (placeK K n)) ∧ ∃ n, w' = w.drewN n := by
  obtain ⟨_, c1, _, _⟩ := h.cells
  have hx : (tyB (.str n)).extract 1 ((tyB (.str n)).size - 1) = strB n := strB_eq (by
    have : (tyB (.str n)).size - 1 = 1 + n.length := by rw [tyB_size, code]; simp; omega
    rw [this, extract_take, tyB_sfx, code]
    simp)
  have hlk : ∀ m, (Instr.lookup 79 (.map (some mb)) (.string (strB n)) true).run Tryz.prog (w.drewN m) = .ok (.tuple #[.int .i64 (lookV K n).1, .bool (lookV K n).2]) (w.drewN m) := fun m => by
    have := (h.names.drewN m).look (s := strB n) (by rw [strB_size, code] at *; simp at hl; unfold maxLen; omega)
    rw [strB_list] at this
    exact this
  rw [← hx] at hlk
  have hs2 : 2 ≤ (tyB (.str n)).size := by rw [tyB_size, code]; simp
  have hs3 : (tyB (.str n)).size ≤ 65536 := by rw [tyB_size]; exact hl
  have HP := Lib.hid (look_place K n).2
  generalize tyB (.str n) = s at *
  have e1 : IntKind.i64.wrap ((s.size : Int) - 1) = (s.size : Int) - 1 := IntWalk.i64_in _ (by omega)
  have e2 : ((s.size : Int) - 1).toNat = s.size - 1 := by omega
  have e3 : (1 : Int) ≤ (s.size : Int) - 1 := by omega
  have e4 : (s.size : Int) - 1 ≤ s.size := by omega
  clear h hx hl hs3
  rcases hv : lookV K n with ⟨i, f⟩
  rw [hv] at hlk HP
  cases f with
  | false =>
    have hfin := Lib.hid (HP.out.trans (if_neg (by simp)))
    clear hv
    go_enter Tryz.func82, Tryz.ntmps82
    go_wp2_with fail
    go_quiet (fail)
    go_wp2
    go_ret
    exact ⟨by rw [hfin.out]; rfl, _, rfl⟩
  | true =>
    have hfin := Lib.hid (HP.out.trans (if_pos rfl))
    clear hv
    go_enter Tryz.func82, Tryz.ntmps82
    go_wp2_with fail
    go_quiet (fail)
    go_wp2
    go_ret
    exact ⟨by rw [hfin.out]; rfl, _, rfl⟩

end Go.Proofs.YtmmjmppfmjejkaaGreatDoor
