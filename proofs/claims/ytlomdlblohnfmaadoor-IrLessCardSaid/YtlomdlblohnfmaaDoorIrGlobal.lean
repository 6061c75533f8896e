/- A global is right. -/
import Derived.Test.YtlomdlblohnfmaaDoorIrWord
import Derived.Test.YtlomdlblohnfmaaDoorIrAny
namespace Go.Proofs.YtlomdlblohnfmaaDoor
open Go.RowKit

def wdCells (x : IrW) : List Value := [.int .i64 x.at_, .int .i64 x.kind, .int .i64 x.num, .string x.text]
def glCells (q : IrG × Value × Value) : List Value := [.string q.1.name, q.2.1, .int .i64 q.1.align, q.2.2]
def IsWds (B : Nat) (w : World) (v : Value) (L : List IrW) : Prop := ∃ a cap, v = .slice a L.length cap ∧ SlOk 40 a L.length cap ∧ IsSl 4 wdCells B w a L ∧ ∀ x ∈ L, x.text.size ≤ maxLen
def IsByt (B : Nat) (w : World) (v : Value) (L : List UInt8) : Prop := ∃ a cap, v = .slice a L.length cap ∧ L.length ≤ cap ∧ SlOk 1 a L.length cap ∧ IsSl 1 byteCells1 B w a L
def IsGls (B : Nat) (w : World) (v : Value) (L : List IrG) : Prop := ∃ a cap Q, v = .slice a L.length cap ∧ SlOk 72 a L.length cap ∧ Q.map Prod.fst = L ∧ IsSl 4 glCells B w a Q ∧ ∀ q ∈ Q, q.1.name.size ≤ maxLen ∧ IsByt B w q.2.1 q.1.bytes ∧ IsWds B w q.2.2 q.1.words
theorem IsWds.below {B B' : Nat} {w w' : World} {v : Value} {L : List IrW} (h : IsWds B w v L) (hb : Below B' w w') (hB : B ≤ B') : IsWds B w' v L := by
  obtain ⟨a, cap, e, ho, hs, ht⟩ := h
  exact ⟨a, cap, e, ho, hs.below hb hB, ht⟩
theorem IsByt.below {B B' : Nat} {w w' : World} {v : Value} {L : List UInt8} (h : IsByt B w v L) (hb : Below B' w w') (hB : B ≤ B') : IsByt B w' v L := by
  obtain ⟨a, cap, e, hc, ho, hs⟩ := h
  exact ⟨a, cap, e, hc, ho, hs.below hb hB⟩
theorem IsGls.below {B B' : Nat} {w w' : World} {v : Value} {L : List IrG} (h : IsGls B w v L) (hb : Below B' w w') (hB : B ≤ B') : IsGls B w' v L := by
  obtain ⟨a, cap, Q, e, ho, hQ, hs, hq⟩ := h
  exact ⟨a, cap, Q, e, ho, hQ, hs.below hb hB, fun q hm => ⟨(hq q hm).1, (hq q hm).2.1.below hb hB, (hq q hm).2.2.below hb hB⟩⟩
theorem IsWds.mono {B B' : Nat} {w : World} {v : Value} {L : List IrW} (h : IsWds B w v L) (hB : B ≤ B') : IsWds B' w v L := by
  obtain ⟨a, cap, e, ho, hs, ht⟩ := h
  exact ⟨a, cap, e, ho, hs.mono hB, ht⟩
theorem IsByt.mono {B B' : Nat} {w : World} {v : Value} {L : List UInt8} (h : IsByt B w v L) (hB : B ≤ B') : IsByt B' w v L := by
  obtain ⟨a, cap, e, hc, ho, hs⟩ := h
  exact ⟨a, cap, e, hc, ho, hs.mono hB⟩
theorem IsGls.mono {B B' : Nat} {w : World} {v : Value} {L : List IrG} (h : IsGls B w v L) (hB : B ≤ B') : IsGls B' w v L := by
  obtain ⟨a, cap, Q, e, ho, hQ, hs, hq⟩ := h
  exact ⟨a, cap, Q, e, ho, hQ, hs.mono hB, fun q hm => ⟨(hq q hm).1, (hq q hm).2.1.mono hB, (hq q hm).2.2.mono hB⟩⟩
theorem nzClo_ok (c : UInt8) (w : World) : Calls Tryd.prog 40 #[.int .u8 (c.toNat : Int)] w fun e w' => e = .returned (.bool (c != 0)) ∧ Below w.heap.size w w' := by
  have hc : ((c.toNat : Int) != 0) = (c != 0) := by
    by_cases h : c = 0
    · subst h; rfl
    · have h2 : (c.toNat : Int) ≠ 0 := fun e => h (by
        apply UInt8.toNat_inj.1
        have h3 : (0 : UInt8).toNat = 0 := rfl
        omega)
      rw [bne_iff_ne.2 h2, bne_iff_ne.2 h]
  have HC := Lib.hid hc
  go_enter Tryd.func40, Tryd.ntmps40
  go_wp2
  go_ret
  exact ⟨by rw [← HC.out]; rfl, Below.refl _ _⟩
/-- four bytes out of a row: none but 0 -/
theorem four_any (b off _n cap : Nat) (L : List UInt8) (k : Nat) (hk : k + 4 ≤ L.length) (r : Bool) (hr : ((L.drop k).take 4).all (fun c => c == 0) = !r) (w : World) (hs : IsSl 1 byteCells1 w.heap.size w (some ⟨b, off, none⟩) L) :
    Calls Tryd.prog 39 #[.slice (some ⟨b, off + k, none⟩) 4 cap, .func (.func 40) #[] #[]] w fun e w' => e = .returned (.bool r) ∧ Below w.heap.size w w' := by
  have hl : ((L.drop k).take 4).length = 4 := by rw [List.length_take, List.length_drop]; omega
  have hs2 : IsSl 1 byteCells1 w.heap.size w (some ⟨b, off + k, none⟩) ((L.drop k).take 4) := fun _ => by
    obtain ⟨b', off', e, hlt, hc⟩ := hs (fun e => by rw [e] at hk; simp at hk)
    simp only [Option.some.injEq, Addr.mk.injEq, and_true] at e
    obtain ⟨rfl, rfl⟩ := e
    refine ⟨b, off + k, rfl, hlt, fun i t ht j u hu => ?_⟩
    have hi : i < 4 := by have := (List.getElem?_eq_some_iff.1 ht).1; omega
    rw [List.getElem?_take, if_pos hi, List.getElem?_drop] at ht
    have := hc (k + i) t ht j u hu
    rw [show off + k + i * 1 + j = off + (k + i) * 1 + j by omega]
    exact this
  have := any_byte 40 #[] (enters_of Tryd.func40 (by kernel_rfl) rfl) (fun c => c != 0) r (some ⟨b, off + k, none⟩) cap ((L.drop k).take 4) w hs2 (fun W c _ _ => nzClo_ok c W) (by rw [hl]; decide) (by
    have h1 : ((L.drop k).take 4).any (fun c => c != 0) = !(((L.drop k).take 4).all (fun c => c == 0)) := by
      generalize (L.drop k).take 4 = M
      induction M with
      | nil => rfl
      | cons x r ih => rw [List.any_cons, List.all_cons, ih, Bool.not_and]; rfl
    rw [h1, hr, Bool.not_not])
  rw [hl] at this
  exact this
end Go.Proofs.YtlomdlblohnfmaaDoor

