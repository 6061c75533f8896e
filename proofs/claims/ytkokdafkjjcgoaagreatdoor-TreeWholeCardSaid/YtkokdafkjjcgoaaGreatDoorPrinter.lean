/- A printer in memory; the level of an expression; an expression where a level is due: the program. -/
import Derived.Test.YtkokdafkjjcgoaaGreatDoorMg25
namespace Go.Proofs.YtkokdafkjjcgoaaGreatDoor
open Go.RowKit

/-- a printer by value -/
abbrev prV (pb : Nat) (a : Option Addr) (n cap : Nat) (b : Option Addr) (m capb : Nat) : Value := .agg #[.pointer (some ⟨pb, 0, none⟩), .slice a n cap, .slice b m capb]
/-- what a printer leans on -/
structure PrOk (pb : Nat) (a : Option Addr) (t : List Nd) (b : Option Addr) (fr : List Nat) (w : World) : Prop where
  env : EnvB pb w
  nds : SlS 6 ndCells pb w a t
  nats : SlS 1 natCells pb w b fr
theorem PrOk.kept {pb : Nat} {a b : Option Addr} {t : List Nd} {fr : List Nat} {w w' : World} (h : PrOk pb a t b fr w) (hp : pb < w.heap.size) (hr : RowOk pb w) (hk : KeepP pb w w') : PrOk pb a t b fr w' := ⟨h.env.kept hp hr hk, h.nds.kept hr hk, h.nats.kept hr hk⟩
/-- while a printer's function runs: its own box bx -/
structure PrSt (pb : Nat) (a : Option Addr) (cap : Nat) (t : List Nd) (b : Option Addr) (capb : Nat) (fr : List Nat) (bx : Nat) (w0 : World) (W : List ByteArray) (w : World) : Prop where
  pap : PapAt pb W w
  ok : PrOk pb a t b fr w
  box : w.heap[bx]? = some (.cells #[.pointer (some ⟨pb, 0, none⟩), .slice a t.length cap, .slice b fr.length capb] 101 (0, 0))
  safe : SafeB pb w bx
  keep : KeepP pb w0 w
section
variable {pb : Nat} {a b : Option Addr} {cap capb : Nat} {t : List Nd} {fr : List Nat} {bx : Nat} {w0 w w' : World} {W W' : List ByteArray}
theorem PrSt.put {e : Ending} (h : PrSt pb a cap t b capb fr bx w0 W w) (h' : PutEnd pb W' w e w') : PrSt pb a cap t b capb fr bx w0 W' w' :=
  ⟨h'.2.1, h.ok.kept h.pap.lt h.pap.rowOk h'.2.2, h.safe.obj h.pap.rowOk h'.2.2 h.box, h.safe.kept h.pap.rowOk h'.2.2, h.keep.trans h'.2.2⟩
theorem PrSt.below (h : PrSt pb a cap t b capb fr bx w0 W w) (hb : Below w.heap.size w w') : PrSt pb a cap t b capb fr bx w0 W w' :=
  have hk := KeepP.of_below (bn := pb) hb h.pap.lt
  ⟨h.pap.below hb, h.ok.kept h.pap.lt h.pap.rowOk hk, h.safe.obj h.pap.rowOk hk h.box, h.safe.kept h.pap.rowOk hk, h.keep.trans hk⟩
theorem PrSt.end_ (h : PrSt pb a cap t b capb fr bx w0 W w) : PutEnd pb W w0 (.returned (.tuple #[])) w := ⟨rfl, h.pap, h.keep⟩
theorem three_blockP {w : World} {b : Nat} {a0 a1 a2 : Value} {T : TypeId} (h : w.heap[b]? = some (.cells #[a0, a1, a2] T (0, 0))) :
    (w.cell? ⟨b, 0, none⟩ = some a0 ∧ w.cell? ⟨b, 1, none⟩ = some a1 ∧ w.cell? ⟨b, 2, none⟩ = some a2) ∧ ∀ j, w.frozen? ⟨b, j, none⟩ = false := by
  refine ⟨⟨?_, ?_, ?_⟩, fun j => ?_⟩ <;> simp [World.cell?, World.frozen?, h]
/-- at a function's beginning: the printer boxed -/
theorem PrSt.start {w1 : World} (hP : PapAt pb W w) (hO : PrOk pb a t b fr w) (h : w.alloc (.cells #[.pointer (some ⟨pb, 0, none⟩), .slice a t.length cap, .slice b fr.length capb] 101) = w1) : PrSt pb a cap t b capb fr w.heap.size w W w1 := by
  obtain ⟨hx, hb⟩ := alloc_at h
  have hk := KeepP.of_below (bn := pb) hb hP.lt
  exact ⟨hP.below hb, hO.kept hP.lt hP.rowOk hk, hx, .new hP.rowOk hP.lt hb (Nat.le_refl _) (lt_of_heap hx), hk⟩
end
theorem exprKinds {k : Int} (h : exprK k = true) : k = 1 ∨ k = 2 ∨ k = 3 ∨ k = 4 ∨ k = 5 ∨ k = 6 ∨ k = 7 ∨ k = 8 ∨ k = 9 ∨ k = 10 ∨ k = 11 ∨ k = 12 ∨ k = 13 ∨ k = 14 ∨ k = 15 ∨ k = 16 ∨ k = 17 := by
  unfold exprK at h
  rw [decide_eq_true_iff] at h
  omega
set_option maxHeartbeats 8000000 in
theorem levelOf_ok (x : Nd) (w : World) (h : exprK x.kind = true) : Calls Tryz.prog 141 #[ndV x] w fun e w' => e = .returned (.int .i64 (lvN x)) ∧ Below w.heap.size w w' := by
  obtain ⟨k, n, p, i, s, y⟩ := x
  have HL := Lib.hid (fun w => level_ok s w)
  have hx := heap_alloc_new w (ndObj ⟨k, n, p, i, s, y⟩)
  have hb := ba1 w (ndObj ⟨k, n, p, i, s, y⟩)
  unfold lvN
  simp only at h ⊢
  generalize levelN s = lv at *
  rcases exprKinds h with rfl | rfl | rfl | rfl | rfl | rfl | rfl | rfl | rfl | rfl | rfl | rfl | rfl | rfl | rfl | rfl | rfl
  all_goals
    generalize hg : w.alloc _ = w1 at *
    obtain ⟨⟨y0, y1, y2, y3, y4, y5⟩, _⟩ := six_block hx
    clear hx h
    unfold ndV
    go_enter Tryz.func141, Tryz.ntmps141
    go_upto_region 1 with fail
    go_wp2_with (go_at_call 100; (with_reducible refine (HL.out _).mono ?_); rintro e w2 ⟨rfl, hw2⟩; subst w2)
    go_ret
    exact ⟨by rfl, hb⟩
/-- a printer's function that puts these tokens -/
def Puts (pb : Nat) (a : Option Addr) (t : List Nd) (b : Option Addr) (fr : List Nat) (f : FuncId) (args : Array Value) (L : List Tok) : Prop :=
  ∀ (W : List ByteArray) (w : World), PapAt pb W w → PrOk pb a t b fr w → W.length + L.length < 1000000000000 → Calls Tryz.prog f args w (PutEnd pb (W ++ L.map wordV) w)
section
variable {pb : Nat} {a b : Option Addr} {cap capb : Nat} {t : List Nd} {fr : List Nat} {bx : Nat} {w0 w w' : World} {W W' : List ByteArray}
theorem PrSt.call {f : FuncId} {args : Array Value} {L : List Tok} (h : PrSt pb a cap t b capb fr bx w0 W w) (hf : Puts pb a t b fr f args L) (hn : W.length + L.length < 1000000000000) : Calls Tryz.prog f args w fun e w' => e = .returned (.tuple #[]) ∧ PrSt pb a cap t b capb fr bx w0 (W ++ L.map wordV) w' :=
  (hf W w h.pap h.ok hn).mono fun _ _ h' => ⟨h'.1, h.put h'⟩
theorem PrSt.put1 (h : PrSt pb a cap t b capb fr bx w0 W w) (s : ByteArray) (hn : W.length < 1000000000000) : Calls Tryz.prog 96 #[.pointer (some ⟨pb, 0, none⟩), .slice (some ⟨w.heap.size, 0, none⟩) 1 1] (w.alloc (.cells #[.string s] 9)) fun e w' => e = .returned (.tuple #[]) ∧ PrSt pb a cap t b capb fr bx w0 (W ++ [s]) w' :=
  (put1_ok pb W s w h.pap hn).mono fun _ _ h' => ⟨h'.1, h.put h'⟩
theorem PrSt.put2 (h : PrSt pb a cap t b capb fr bx w0 W w) (s r : ByteArray) (hn : W.length + 1 < 1000000000000) : Calls Tryz.prog 96 #[.pointer (some ⟨pb, 0, none⟩), .slice (some ⟨w.heap.size, 0, none⟩) 2 2] (w.alloc (.cells #[.string s, .string r] 9)) fun e w' => e = .returned (.tuple #[]) ∧ PrSt pb a cap t b capb fr bx w0 (W ++ [s, r]) w' :=
  (put2_ok pb W s r w h.pap hn).mono fun _ _ h' => ⟨h'.1, h.put h'⟩
theorem PrSt.cells (h : PrSt pb a cap t b capb fr bx w0 W w) : w.cell? ⟨bx, 0, none⟩ = some (.pointer (some ⟨pb, 0, none⟩)) ∧ w.cell? ⟨bx, 1, none⟩ = some (.slice a t.length cap) ∧ w.cell? ⟨bx, 2, none⟩ = some (.slice b fr.length capb) := (three_blockP h.box).1
end
theorem word_M (s : ByteArray) : wordV (tkM s) = s := by simp [wordV, wordL, tkM]
theorem word_K (s : ByteArray) : wordV (tkK s) = s := by simp [wordV, wordL, tkK]
theorem word_N (s : ByteArray) : wordV (tkN s) = s := by simp [wordV, wordL, tkN]
set_option maxRecDepth 100000 in
set_option maxHeartbeats 4000000 in
theorem part9_ok {pb : Nat} {a b : Option Addr} {cap capb : Nat} {t : List Nd} {fr : List Nat} {p : Nat} (hp : p < t.length) (he : exprK (kindAt t p) = true)
    (hx : Puts pb a t b fr 53 #[prV pb a t.length cap b fr.length capb, .int .i64 (p : Int)] (exprN t fr p)) (due : Int) :
    Puts pb a t b fr 98 #[prV pb a t.length cap b fr.length capb, .int .i64 (p : Int), .int .i64 due] (partN t fr due p) := by
  intro W w hP hO hn
  have hlv : ndAt t p = t[p] := ndAt_is (List.getElem?_eq_getElem hp)
  rw [ndAt_kind, hlv] at he
  have HLv := Lib.hid (fun w => levelOf_ok t[p] w he)
  unfold partN partF at hn ⊢
  rw [hlv] at hn ⊢
  have HX := Lib.hid hx
  have HS0 := Lib.hid (fun w1 h => PrSt.start (cap := cap) (capb := capb) (w1 := w1) hP hO h)
  have HNd := Lib.hid (fun (w1 : World) (h : SlS 6 ndCells pb w1 a t) => nds_at h.sl hp)
  clear hP hO hx he hlv
  unfold ndV at HLv
  generalize lvN t[p] = lv at *
  generalize exprN t fr p = L at *
  generalize t[p] = x at *
  refine Or.elim (Classical.em (due ≤ lv)) (fun hd => ?a1) (fun hd => ?b1)
  case' a1 =>
    have t1 : decide (due ≤ lv) = true := by simpa using hd
    rw [if_pos hd] at hn ⊢
  case' b1 =>
    have t1 : decide (due ≤ lv) = false := by simpa using hd
    rw [if_neg hd] at hn ⊢
    simp only [List.length_cons, List.length_append, List.length_nil] at hn
    rw [show W ++ (tkM ⟨#[40]⟩ :: (L ++ [tkM ⟨#[41]⟩])).map wordV = W ++ [⟨#[40]⟩] ++ L.map wordV ++ [⟨#[41]⟩] by simp [word_M]]
  all_goals
    go_enter Tryz.func98, Tryz.ntmps98
    go_upto_region 1 with fail
    generalize hg1 : w.alloc _ = w1 at *
    have HS1 := Lib.hid (HS0.out w1 rfl)
    clear hg1 HS0
    obtain ⟨y0, y1, y2⟩ := HS1.out.cells
    obtain ⟨bb, oo, ha, hbl, x0, x1, x2, x3, x4, x5⟩ := HNd.out w1 HS1.out.ok.nds
    subst ha
    go_wp2_with (first
      | (go_at_call 141; (with_reducible refine (HLv.out _).mono ?_); rintro e w2 ⟨rfl, hb2⟩; have HS2 := Lib.hid (HS1.out.below hb2); clear hb2; obtain ⟨z0, z1, z2⟩ := HS2.out.cells)
      | (go_at_call 96; (refine (HS4.out.put1 ⟨#[41]⟩ (by simp; omega)).mono ?_); rintro e w5 ⟨rfl, hs⟩; have HS5 := Lib.hid hs; clear hs)
      | (go_at_call 96; (refine (HS2.out.put1 ⟨#[40]⟩ (by omega)).mono ?_); rintro e w3 ⟨rfl, hs⟩; have HS3 := Lib.hid hs; clear hs; obtain ⟨z0, z1, z2⟩ := HS3.out.cells)
      | (go_at_call 53; (refine (HS3.out.call HX.out (by simp; omega)).mono ?_); rintro e w4 ⟨rfl, hs⟩; have HS4 := Lib.hid hs; clear hs; obtain ⟨z0, z1, z2⟩ := HS4.out.cells)
      | (go_at_call 53; (refine (HS2.out.call HX.out (by omega)).mono ?_); rintro e w5 ⟨rfl, hs⟩; have HS5 := Lib.hid hs; clear hs))
    go_end0
    simpa using HS5.out.end_
end Go.Proofs.YtkokdafkjjcgoaaGreatDoor

