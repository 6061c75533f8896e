/- What stands behind an expression: the program. -/
import Derived.Test.YtkokdafkjjcgoaaGreatDoorMg26
namespace Go.Proofs.YtkokdafkjjcgoaaGreatDoor
open Go.RowKit

def NodeP (w : World) (q : Nat) (x : Nd) : Prop := w.heap[q]? = some (.cells #[.int .i64 x.kind, .int .i64 x.n, .int .i64 x.at_, .int .i64 x.int, .string x.text, .string x.type] 36 (0, 0))
section
variable {pb : Nat} {a b : Option Addr} {cap capb : Nat} {t : List Nd} {fr : List Nat} {bx : Nat} {w0 w w' : World} {W W' : List ByteArray}
theorem PrSt.rebase (h : PrSt pb a cap t b capb fr bx w0 W w) : PrSt pb a cap t b capb fr bx w W w := ⟨h.pap, h.ok, h.box, h.safe, KeepP.refl _ _⟩
theorem PrSt.end_from {w1 : World} (h : PrSt pb a cap t b capb fr bx w1 W w) (hk : KeepP pb w0 w1) : PutEnd pb W w0 (.returned (.tuple #[])) w := ⟨rfl, h.pap, hk.trans h.keep⟩
theorem PrSt.callL {f : FuncId} {args : Array Value} {la : Option Addr} {P : List Nat} {L : List Tok} (h : PrSt pb a cap t b capb fr bx w0 W w) (hf : PutsL pb a t b fr f args la P L) (hL : SlS 1 natCells pb w la P) (hn : W.length + L.length < 1000000000000) : Calls Tryz.prog f args w fun e w' => e = .returned (.tuple #[]) ∧ PrSt pb a cap t b capb fr bx w0 (W ++ L.map wordV) w' :=
  (hf W w h.pap h.ok hL hn).mono fun _ _ h' => ⟨h'.1, h.put h'⟩
theorem SlS.tailN {w : World} {g o : Nat} {P : List Nat} (h : SlS 1 natCells pb w (some ⟨g, o, none⟩) P) : SlS 1 natCells pb w (some ⟨g, o + 1, none⟩) P.tail := by
  have hne : P.tail ≠ [] → P ≠ [] := fun hn e => hn (by rw [e]; rfl)
  refine ⟨fun hn => ?_, fun hn b off e => ?_⟩
  · obtain ⟨b, off, ha, hlt, hc⟩ := h.sl (hne hn)
    simp only [Option.some.injEq, Addr.mk.injEq] at ha
    obtain ⟨rfl, rfl, _⟩ := ha
    refine ⟨g, o + 1, rfl, hlt, fun i x hx j u hu => ?_⟩
    have := hc (i + 1) x (by simpa using hx) j u hu
    rw [show o + 1 + i * 1 + j = o + (i + 1) * 1 + j by omega]
    exact this
  · simp only [Option.some.injEq, Addr.mk.injEq] at e
    obtain ⟨rfl, _, _⟩ := e
    exact h.safe (hne hn) g o rfl
/-- the rest of a slice behind its first element -/
theorem SlS.tailC {w : World} {g o lc : Nat} {P : List Nat} (h : SlS 1 natCells pb w (some ⟨g, o, none⟩) P) (hc : P.length ≤ lc) : SlS 1 natCells pb w (if lc = 1 then some ⟨g, o, none⟩ else some ⟨g, o + 1, none⟩) P.tail := by
  split
  · have : P.tail = [] := by
      apply List.eq_nil_of_length_eq_zero
      rw [List.length_tail]
      omega
    rw [this]
    exact ⟨fun hn => absurd rfl hn, fun hn => absurd rfl hn⟩
  · exact h.tailN
end
set_option maxRecDepth 100000 in
set_option maxHeartbeats 1000000 in
theorem postfix_ok {pb : Nat} {a b la : Option Addr} {cap capb lc : Nat} {t : List Nd} {fr P : List Nat} {x : Nd} (hk : x.kind = 6 ∨ x.kind = 11 ∨ x.kind = 12 ∨ x.kind = 13 ∨ x.kind = 14) (hPl : P.length ≤ 4096) (hPc : P.length ≤ lc) (h1 : 0 < P.length) (h2 : x.kind = 12 → 1 < P.length)
    (hA : ∀ due, ∀ p ∈ P, Puts pb a t b fr 98 #[prV pb a t.length cap b fr.length capb, .int .i64 (p : Int), .int .i64 due] (partN t fr due p)) :
    PutsL pb a t b fr 102 #[prV pb a t.length cap b fr.length capb, ndV x, .slice la P.length lc] la P (atF P (partF t (exprN t fr) 16) 0 ++ backB t P (exprN t fr) x) := by
  intro W w hP hO hL hn
  have HA := Lib.hid hA
  have HS0 := Lib.hid (fun w1 h => PrSt.start (cap := cap) (capb := capb) (w1 := w1) hP hO h)
  have HL := Lib.hid (fun w1 (hk : KeepP pb w w1) => hL.kept hP.rowOk hk)
  have HA0 := Lib.hid (hA 16 P[0] (List.getElem_mem h1))
  have hat := atF_is (f := partF t (exprN t fr) 16) h1
  rw [hat] at hn ⊢
  unfold partN at HA0 HA
  generalize hL0 : partF t (exprN t fr) 16 P[0] = L0 at *
  simp only [List.length_append] at hn
  clear hP hO hA hL hat hL0
  obtain ⟨k, n, p, i, s, y⟩ := x
  unfold ndV
  simp only at hk h2
  go_enter Tryz.func102, Tryz.ntmps102
  go_upto_region 1 with fail
  generalize hg1 : w.alloc _ = w1 at *
  have HS1 := Lib.hid (HS0.out w1 rfl)
  clear HS0
  generalize hg2 : w1.alloc _ = w2 at *
  obtain ⟨hx2, hb2⟩ := alloc_at hg2
  have hsz2 : w1.heap.size = w.heap.size + 1 := by rw [← hg1]; simp
  have HS2 := Lib.hid (HS1.out.below hb2)
  have HK2 := Lib.hid HS2.out.keep
  have hsf := SafeB.new HS1.out.pap.rowOk HS1.out.pap.lt hb2 (Nat.le_refl _) (lt_of_heap hx2)
  rw [hsz2] at hx2 hsf
  have HN := Lib.hid (fun w' (hk : KeepP pb w2 w') => (show NodeP w' (w.heap.size + 1) ⟨k, n, p, i, s, y⟩ from hsf.obj HS2.out.pap.rowOk hk hx2))
  have HL2 := Lib.hid (fun w' (hk : KeepP pb w2 w') => HL.out w' (HK2.out.trans hk))
  have HR2 := Lib.hid HS2.out.rebase
  clear hg1 hg2 hx2 hb2 hsf HL hsz2
  obtain ⟨y0, y1, y2⟩ := HR2.out.cells
  obtain ⟨bb, oo, ha, c0⟩ := nats_atP (HL2.out w2 (KeepP.refl _ _)).sl h1
  subst ha
  rw [Nat.add_zero] at c0
  go_still_tail 4, (by kernel_rfl)
  change wpList _ _ _ _ _ w2.drew
  have HS3 := Lib.hid (HR2.out.below ((Below.refl _ w2).drew))
  clear c0
  go_upto_region 2 with (go_at_call 98; (refine (HS3.out.call HA0.out (by omega)).mono ?_); rintro e w4 ⟨rfl, hs⟩; have HS4 := Lib.hid hs; clear hs)
  obtain ⟨z0, z1, z2⟩ := HS4.out.cells
  obtain ⟨⟨n0, n1, n2, n3, n4, n5⟩, _⟩ := six_block (HN.out w4 HS4.out.keep)
  rcases hk with rfl | rfl | rfl | rfl | rfl
  · have hB : backB t P (exprN t fr) ⟨6, n, p, i, s, y⟩ = [tkM s] := rfl
    rw [hB] at hn
    simp only [List.length_singleton] at hn
    go_wp2_with (go_at_call 96; go_loud (refine (HS4.out.put1 s (by simp; omega)).mono ?_); rintro e w5 ⟨rfl, hs⟩; have HS5 := Lib.hid hs; clear hs)
    go_end0
    rw [hB]
    simpa [word_M] using HS5.out.end_from HK2.out
  · have hB : backB t P (exprN t fr) ⟨11, n, p, i, s, y⟩ = tkM ⟨#[40]⟩ :: (rowF P.tail (partF t (exprN t fr) 2) P.tail.length ++ [tkM ⟨#[41]⟩]) := rfl
    have HRw := Lib.hid (row_ok (la := if lc = 1 then some ⟨bb, oo, none⟩ else some ⟨bb, oo + 1, none⟩) (lc := lc - 1) (P := P.tail) (F := partF t (exprN t fr) 2) (by simp; omega) (fun p hp => HA.out 2 p (List.mem_of_mem_tail hp)))
    have hlc : P.length ≤ lc := hPc
    rw [hB] at hn
    simp only [List.length_cons, List.length_append, List.length_nil] at hn
    rw [List.length_tail] at HRw hn hB
    generalize rowF P.tail (partF t (exprN t fr) 2) (P.length - 1) = R at *
    go_upto_region 7 with (go_at_call 96; (refine (HS4.out.put1 ⟨#[40]⟩ (by simp; omega)).mono ?_); rintro e w5 ⟨rfl, hs⟩; have HS5 := Lib.hid hs; clear hs)
    obtain ⟨z0, z1, z2⟩ := HS5.out.cells
    have hPq : 1 ≤ P.length := h1
    have hPi : (1 : Int) ≤ (P.length : Int) := by omega
    have hPj : (P.length : Int) ≤ (lc : Int) := by omega
    have hPk : P.length ≠ 0 := by omega
    have hPl2 : ((P.length : Int) - 1).toNat = P.length - 1 := by omega
    go_still_tail 3, (by kernel_rfl)
    change wpList _ _ _ _ _ w5.drew
    have HS6 := Lib.hid (HS5.out.below ((Below.refl _ w5).drew))
    have HT := Lib.hid ((HL2.out _ HS6.out.keep).tailC hlc)
    generalize (if lc = 1 then some ⟨bb, oo, none⟩ else some ⟨bb, oo + 1, none⟩ : Option Addr) = la2 at *
    go_upto_region 8 with (go_at_call 142; (with_reducible refine (HS6.out.callL HRw.out HT.out (by simp; omega)).mono ?_); rintro e w7 ⟨rfl, hs⟩; have HS7 := Lib.hid hs; clear hs)
    obtain ⟨z0, z1, z2⟩ := HS7.out.cells
    go_wp2_with (go_at_call 96; (refine (HS7.out.put1 ⟨#[41]⟩ (by simp; omega)).mono ?_); rintro e w8 ⟨rfl, hs⟩; have HS8 := Lib.hid hs; clear hs)
    go_end0
    rw [hB]
    simpa [word_M] using HS8.out.end_from HK2.out
  · have hP1 := h2 rfl
    have hB : backB t P (exprN t fr) ⟨12, n, p, i, s, y⟩ = tkM ⟨#[91]⟩ :: (atF P (partF t (exprN t fr) 1) 1 ++ [tkM ⟨#[93]⟩]) := rfl
    have HA1 := Lib.hid (HA.out 1 P[1] (List.getElem_mem hP1))
    rw [atF_is hP1] at hB
    rw [hB] at hn
    simp only [List.length_cons, List.length_append, List.length_nil] at hn
    generalize partF t (exprN t fr) 1 P[1] = R at *
    go_upto_region 11 with (go_at_call 96; (refine (HS4.out.put1 ⟨#[91]⟩ (by simp; omega)).mono ?_); rintro e w5 ⟨rfl, hs⟩; have HS5 := Lib.hid hs; clear hs)
    obtain ⟨z0, z1, z2⟩ := HS5.out.cells
    obtain ⟨b5, o5, ha, c0⟩ := nats_atP (HL2.out w5 HS5.out.keep).sl hP1
    simp only [Option.some.injEq, Addr.mk.injEq] at ha
    obtain ⟨rfl, rfl, _⟩ := ha
    have hn5 : (1 : Int) < (P.length : Int) := by omega
    go_still_tail 4, (by kernel_rfl)
    change wpList _ _ _ _ _ w5.drew
    have HS6 := Lib.hid (HS5.out.below ((Below.refl _ w5).drew))
    go_upto_region 12 with (go_at_call 98; (refine (HS6.out.call HA1.out (by simp; omega)).mono ?_); rintro e w7 ⟨rfl, hs⟩; have HS7 := Lib.hid hs; clear hs)
    obtain ⟨z0, z1, z2⟩ := HS7.out.cells
    go_wp2_with (go_at_call 96; (refine (HS7.out.put1 ⟨#[93]⟩ (by simp; omega)).mono ?_); rintro e w8 ⟨rfl, hs⟩; have HS8 := Lib.hid hs; clear hs)
    go_end0
    rw [hB]
    simpa [word_M] using HS8.out.end_from HK2.out
  · have hB : backB t P (exprN t fr) ⟨13, n, p, i, s, y⟩ = [tkM ⟨#[46]⟩, tkN s] := rfl
    rw [hB] at hn
    simp only [List.length_cons, List.length_nil] at hn
    go_wp2_with (go_at_call 96; (refine (HS4.out.put2 ⟨#[46]⟩ s (by simp; omega)).mono ?_); rintro e w5 ⟨rfl, hs⟩; have HS5 := Lib.hid hs; clear hs)
    go_end0
    rw [hB]
    simpa [word_M, word_N] using HS5.out.end_from HK2.out
  · have hB : backB t P (exprN t fr) ⟨14, n, p, i, s, y⟩ = [tkM ⟨#[45, 62]⟩, tkN s] := rfl
    rw [hB] at hn
    simp only [List.length_cons, List.length_nil] at hn
    go_wp2_with (go_at_call 96; (refine (HS4.out.put2 ⟨#[45, 62]⟩ s (by simp; omega)).mono ?_); rintro e w5 ⟨rfl, hs⟩; have HS5 := Lib.hid hs; clear hs)
    go_end0
    rw [hB]
    simpa [word_M, word_N] using HS5.out.end_from HK2.out
end Go.Proofs.YtkokdafkjjcgoaaGreatDoor

