/- What an argument that is a slice of tokens reads as, opened. -/
import Derived.Test.YtncojfcdkigmiaaDoorLexLays
import Derived.Deep.Slices
import Derived.ProofKit
import Derived.OpenShut
namespace Go.Proofs.YtncojfcdkigmiaaDoor
open Go.ChangeShapes Go.WideShapes Go.ChangeAt Go.RowKit Go.Deep

theorem cellsTok : Tryd.prog.cellsOf 34 = 4 := by kernel_rfl
theorem cellsInt : Tryd.prog.cellsOf 3 = 1 := by kernel_rfl
theorem cellsStr : Tryd.prog.cellsOf 9 = 1 := by kernel_rfl

section
variable {H : Type} {enc : TypeId × Value → H} {w : World} {base : Nat} {spare : Nat → Bool} {held : Bool}

def Tok.data (t : Tok) : DataW H := .agg [.lit (.int .i64 t.kind), .lit (.int .i64 t.place), .lit (.int .i64 t.num), .lit (.string t.text.data.toList)]
def i64ok (n : Int) : Prop := -9223372036854775808 ≤ n ∧ n ≤ 9223372036854775807

set_option maxRecDepth 100000 in
theorem open_tok {fuel : Nat} {cs : List Value} {x : DataW H × List MemPlace} (h : DataW.trod enc Tryd.prog w base spare held fuel 34 cs = some x) :
    ∃ t : Tok, cs = t.cells ∧ x = (t.data, []) ∧ i64ok t.num := by
  obtain ⟨xs, n, _, rfl, hlen, hxs, hf⟩ := DataW.trod_struct Tryd.underlying34 h
  rw [cellsTok] at hlen
  match cs, hlen with
  | [c0, c1, c2, c3], _ =>
    match xs, hxs with
    | [y0, y1, y2, y3], _ =>
      have f0 := hf 0 _ rfl
      have f1 := hf 1 _ rfl
      have f2 := hf 2 _ rfl
      have f3 := hf 3 _ rfl
      simp [cellsInt] at f0 f1 f2
      simp [cellsStr] at f3
      obtain ⟨a, e0, r0, _⟩ := DataW.trod_int Tryd.underlying3 f0
      obtain ⟨b, e1, r1, _⟩ := DataW.trod_int Tryd.underlying3 f1
      obtain ⟨c, e2, r2, w2⟩ := DataW.trod_int Tryd.underlying3 f2
      obtain ⟨s, e3, r3, _⟩ := DataW.trod_string Tryd.underlying9 f3
      simp only [List.cons.injEq, and_true] at e0 e1 e2 e3
      subst e0 e1 e2 e3 r0 r1 r2 r3
      exact ⟨⟨a, b, c, s⟩, rfl, rfl, bounds_i64 w2⟩

/-- the whole argument: nil, or a slice whose tokens read as L (what stands behind its length left out) -/
theorem open_toks {fuel : Nat} {v : Value} {x : DataW H × List MemPlace} (h : DataW.trod enc Tryd.prog w base spare held fuel 22 [v] = some x) :
    (v = .slice none 0 0 ∧ x = (.nil, [])) ∨
    ∃ (b off cap : Nat) (sp : Option Nat) (L : List Tok) (rest : List (DataW H)), v = .slice (some ⟨b, off, sp⟩) L.length cap ∧ x.1 = .slice (L.map Tok.data) rest ∧ (L ≠ [] → sp = none ∧ TokRow w b off L ∧ b < w.heap.size) ∧ ∀ t ∈ L, i64ok t.num := by
  rcases open_slice Tryd.underlying22 h with ⟨hv, hx⟩ | ⟨a, len, cap, m, n, D, Pl, hv, _, hl, _, hm, hx, hi⟩
  · left
    exact ⟨by simpa using hv, hx⟩
  · right
    have hlm : len ≤ m := by rw [hm]; split <;> omega
    have hD : ∀ i, i < len → ∃ t : Tok, D i = t.data ∧ i64ok t.num ∧ w.cells? base (a.add (i * 4)) 4 = some t.cells := fun i hlt => by
      obtain ⟨cs', hc, ht⟩ := hi i (by omega)
      rw [cellsTok] at hc
      obtain ⟨t, rfl, hx', hok⟩ := open_tok ht
      simp only [Prod.mk.injEq] at hx'
      exact ⟨t, hx'.1, hok, hc⟩
    have key : ∀ k, k ≤ len → ∃ L : List Tok, L.length = k ∧ (List.range k).map D = L.map Tok.data ∧ ∀ i (hi : i < L.length), i64ok L[i].num ∧ w.cells? base (a.add (i * 4)) 4 = some L[i].cells := by
      intro k
      induction k with
      | zero => intro _; exact ⟨[], rfl, rfl, fun i hi => by simp at hi⟩
      | succ k ih =>
        intro hk
        obtain ⟨L, hL, hm', hc⟩ := ih (by omega)
        obtain ⟨t, hd, hok, hcell⟩ := hD k (by omega)
        refine ⟨L ++ [t], by simp [hL], by rw [List.range_succ, List.map_append, List.map_append, hm']; simp [hd], fun i hi => ?_⟩
        rcases Nat.lt_or_ge i L.length with h' | h'
        · rw [List.getElem_append_left h']; exact hc i h'
        · obtain rfl : i = L.length := by simp at hi; omega
          rw [List.getElem_append_right (Nat.le_refl _)]
          simp only [Nat.sub_self, List.getElem_cons_zero]
          rw [hL]; exact ⟨hok, hcell⟩
    obtain ⟨L, hL, hm', hc⟩ := key len (Nat.le_refl _)
    obtain ⟨b, off, sp⟩ := a
    subst hL
    have hadd : ∀ i j, j < 4 → (((⟨b, off, none⟩ : Addr).add (i * 4)).add j) = ⟨b, off + i * 4 + j, none⟩ := by
      intro i j _
      unfold Addr.add
      split <;> split <;> simp_all
    refine ⟨b, off, cap, sp, L, _, by simpa using hv, by rw [hx, hm'], fun hne => ?_, fun t ht => ?_⟩
    · have h0 : 0 < L.length := List.length_pos_iff.2 hne
      have hsp : sp = none := by
        obtain ⟨_, _, hat⟩ := World.cells?_some (hc 0 h0).2
        have h := hat 0 (by decide)
        simp only [Nat.zero_mul, Addr.add, if_true, World.cell?] at h
        cases sp with
        | none => rfl
        | some z =>
          exfalso
          simp [Tok.cells] at h
          split at h <;> simp at h
      subst hsp
      have hrow : TokRow w b off L := fun i t ht => by
        obtain ⟨hi, rfl⟩ := List.getElem?_eq_some_iff.1 ht
        obtain ⟨_, _, hat⟩ := World.cells?_some (hc i hi).2
        refine ⟨?_, ?_, ?_, ?_⟩
        · have := hat 0 (by decide); rw [hadd i 0 (by decide)] at this; exact this
        · have := hat 1 (by decide); rw [hadd i 1 (by decide)] at this; exact this
        · have := hat 2 (by decide); rw [hadd i 2 (by decide)] at this; exact this
        · have := hat 3 (by decide); rw [hadd i 3 (by decide)] at this; exact this
      exact ⟨rfl, hrow, World.block_lt_of_cell? w _ (hrow 0 L[0] (List.getElem?_eq_getElem h0)).1⟩
    · obtain ⟨i, hi, rfl⟩ := List.getElem_of_mem ht
      exact (hc i hi).1
end
end Go.Proofs.YtncojfcdkigmiaaDoor
