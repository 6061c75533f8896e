/- The program's tokens, as the statements ask for them; what the statements begin with. -/
import Derived.Test.YtncojfcdkigmiaaDoorTokens
namespace Go.Proofs.YtncojfcdkigmiaaDoor
open Go.RowKit

theorem tokens_ok (s : ByteArray) (w : World) (hE : Env w) : Calls Tryd.prog 12 #[.string s] w (Toked w (tokE s)) := by
  by_cases h : 65536 < s.size
  · have : tokE s = .bad 0 3 := by unfold tokE; rw [if_pos h]
    rw [this]; exact tokens_long s w h
  · exact tokens_in s w (by omega) hE
theorem tokens_bad {s : ByteArray} {p : Nat} {x : Int} (w : World) (hE : Env w) (h : tokE s = .bad p x) :
    Calls Tryd.prog 12 #[.string s] w fun e w' => e = .returned (.tuple #[.slice none 0 0, .agg #[.int .i64 p, .int .i64 x]]) ∧ Below w.heap.size w w' := by
  have := tokens_ok s w hE
  rw [h] at this; exact this
/-- a slice of tokens that lies in a row of its own -/
def TokSl (B : Nat) (w : World) (v : Value) (L : List Tok) : Prop := ∃ a cap, v = .slice a L.length cap ∧ L.length ≤ cap ∧ (L ≠ [] → ∃ g, a = some ⟨g, 0, none⟩ ∧ g < w.heap.size ∧ TokRow w g 0 L ∧ B ≤ g)
theorem own_sl {w : World} {B : Nat} {v : Value} {n : Nat} {L : List Tok} (h : w.ownsRow B 34 4 v n (flatL L)) : TokSl B w v L := by
  have hl := h.1
  rw [flatL_length] at hl
  obtain rfl : n = L.length := by omega
  rcases h.2 with ⟨rfl, h0⟩ | ⟨g, cap, cur, rfl, hB, hg, hcap, _⟩
  · exact ⟨none, 0, by rw [h0], by omega, fun hne => absurd (List.eq_nil_of_length_eq_zero h0) hne⟩
  · refine ⟨_, cap, rfl, hcap, fun _ => ⟨g, rfl, lt_of_heap hg, fun i t ht => ?_, hB⟩⟩
    obtain ⟨hi, rfl⟩ := List.getElem?_eq_some_iff.1 ht
    obtain ⟨f0, f1, f2, f3⟩ := flatL_get L i hi
    have hc := fun j u hj => (addr_add g j) ▸ h.cells (g := g) rfl j u hj
    rw [Nat.zero_add]
    exact ⟨hc _ _ f0, hc _ _ f1, hc _ _ f2, hc _ _ f3⟩
theorem tokens_good {s : ByteArray} {L : List Tok} (w : World) (hE : Env w) (h : tokE s = .good L) :
    Calls Tryd.prog 12 #[.string s] w fun e w' => ∃ v, e = .returned (.tuple #[v, .agg #[.int .i64 0, .int .i64 0]]) ∧ TokSl w.heap.size w' v L ∧ Below w.heap.size w w' := by
  have := tokens_ok s w hE
  rw [h] at this
  exact this.mono fun _ _ ⟨⟨v, he, ho⟩, hb⟩ => ⟨v, he, own_sl ho, hb⟩
theorem TokSl.below {B : Nat} {w w' : World} {v : Value} {L : List Tok} (h : TokSl B w v L) (hb : Below w.heap.size w w') : TokSl B w' v L := by
  obtain ⟨a, cap, rfl, hc, hf⟩ := h
  refine ⟨a, cap, rfl, hc, fun hne => ?_⟩
  obtain ⟨g, rfl, hg, hr, hB⟩ := hf hne
  exact ⟨g, rfl, Nat.lt_of_lt_of_le hg hb.size, hr.below hb hg, hB⟩

theorem tokens_bad0 {s : ByteArray} {x : Int} (w : World) (hE : Env w) (h : tokE s = .bad 0 x) :
    Calls Tryd.prog 12 #[.string s] w fun e w' => e = .returned (.tuple #[.slice none 0 0, .agg #[.int .i64 0, .int .i64 x]]) ∧ Below w.heap.size w w' := tokens_bad w hE h
theorem work1 : tokE ⟨#[97, 45, 62, 98, 43, 43, 32, 48, 120, 49, 70, 117, 32, 39, 92, 120, 102, 102, 39]⟩ = .good [⟨1, 0, 0, ⟨#[97]⟩⟩, ⟨5, 1, 0, ⟨#[45, 62]⟩⟩, ⟨1, 3, 0, ⟨#[98]⟩⟩, ⟨5, 4, 0, ⟨#[43, 43]⟩⟩, ⟨3, 7, 31, ⟨#[117]⟩⟩, ⟨3, 13, -1, ⟨#[]⟩⟩] := by kernel_rfl
theorem work2 : tokE ⟨#[48, 56]⟩ = .bad 0 73 := by kernel_rfl
theorem work3 : tokE ⟨#[34, 97, 34, 32, 34, 98, 34]⟩ = .good [⟨4, 0, 0, ⟨#[97, 98]⟩⟩] := by kernel_rfl

set_option maxHeartbeats 4000000 in
set_option maxRecDepth 100000 in
theorem works_ok (w : World) (hE : Env w) : Calls Tryd.prog 11 #[] w fun e w' => e = .returned (.bool true) ∧ Below w.heap.size w w' := by
  have HE := Lib.hid hE
  clear hE
  go_enter Tryd.func11, Tryd.ntmps11
  go_wp2_with (go_at_call 12; refine (tokens_good _ HE.out work1).mono ?_)
  rintro e w1 ⟨v1, rfl, h1, hb1⟩
  obtain ⟨a1, cap1, rfl, _, hf1⟩ := h1
  obtain ⟨g1, rfl, hg1, hr1, _⟩ := hf1 (by simp)
  have HB1 := Lib.hid hb1
  have HR1 := Lib.hid hr1
  clear hb1 hr1 hf1
  have hz1 := HB1.out.size
  have HB1' := Lib.hid (HB1.out.alloc hz1 (.cells #[.int .i64 0, .int .i64 0] 30))
  have HE1 := Lib.hid (HE.out.below HB1'.out)
  go_wp2_with (go_at_call 12; refine (tokens_bad0 _ HE1.out work2).mono ?_)
  rintro e w2 ⟨rfl, hb2⟩
  have hz2 := hb2.size
  have hz2' : w1.heap.size < w2.heap.size := by simp at hz2; omega
  have f10 : w2.cell? ⟨w1.heap.size, 0, none⟩ = some (.int .i64 0) := by rw [hb2.cell (by simp)]; simp
  have f11 : w2.cell? ⟨w1.heap.size, 1, none⟩ = some (.int .i64 0) := by rw [hb2.cell (by simp)]; simp
  have HB2 := Lib.hid (HB1'.out.trans (hb2.mono (by simp; omega)))
  have HR2 := Lib.hid ((HR1.out.below ((Below.refl _ _).alloc (Nat.le_refl _) (.cells #[.int .i64 0, .int .i64 0] 30)) hg1).below hb2 (by simp; omega))
  have hgz2 : g1 < w2.heap.size := by omega
  clear hb2 HB1'
  have HB2' := Lib.hid (HB2.out.alloc HB2.out.size (.cells #[.int .i64 0, .int .i64 73] 30))
  have HE2 := Lib.hid (HE.out.below HB2'.out)
  go_wp2_with (go_at_call 12; refine (tokens_good _ HE2.out work3).mono ?_)
  rintro e w3 ⟨v3, rfl, h3, hb3⟩
  obtain ⟨a3, cap3, rfl, _, hf3⟩ := h3
  obtain ⟨g3, rfl, hg3, hr3, _⟩ := hf3 (by simp)
  have hz3 := hb3.size
  have hz3' : w2.heap.size < w3.heap.size := by simp at hz3; omega
  have e10 : w3.cell? ⟨w1.heap.size, 0, none⟩ = some (.int .i64 0) := by rw [hb3.cell (by simp; omega), World.cell?_alloc_past _ _ _ hz2']; exact f10
  have e11 : w3.cell? ⟨w1.heap.size, 1, none⟩ = some (.int .i64 0) := by rw [hb3.cell (by simp; omega), World.cell?_alloc_past _ _ _ hz2']; exact f11
  have e20 : w3.cell? ⟨w2.heap.size, 0, none⟩ = some (.int .i64 0) := by rw [hb3.cell (by simp)]; simp
  have e21 : w3.cell? ⟨w2.heap.size, 1, none⟩ = some (.int .i64 73) := by rw [hb3.cell (by simp)]; simp
  have hr1 := (HR2.out.below ((Below.refl _ _).alloc (Nat.le_refl _) (.cells #[.int .i64 0, .int .i64 73] 30)) hgz2).below hb3 (by simp; omega)
  have m1 : w3.cell? ⟨g1, 7, none⟩ = some (.string ⟨#[45, 62]⟩) := (hr1 1 _ rfl).2.2.2
  have m2 : w3.cell? ⟨g1, 18, none⟩ = some (.int .i64 31) := (hr1 4 _ rfl).2.2.1
  have m3 : w3.cell? ⟨g1, 19, none⟩ = some (.string ⟨#[117]⟩) := (hr1 4 _ rfl).2.2.2
  have m4 : w3.cell? ⟨g1, 22, none⟩ = some (.int .i64 (-1)) := (hr1 5 _ rfl).2.2.1
  have m5 : w3.cell? ⟨g3, 3, none⟩ = some (.string ⟨#[97, 98]⟩) := (hr3 0 _ rfl).2.2.2
  have HB3 := Lib.hid (HB2'.out.trans (hb3.mono (by simp; omega)))
  have l1 : w1.heap.size < w3.heap.size := by omega
  have l2 : w2.heap.size < w3.heap.size := by omega
  have l3 : g1 < w3.heap.size := by omega
  clear hr1 hr3 hb3 f10 f11 hf3
  go_wp2_with fail
  go_ret
  exact ⟨rfl, HB3.out.alloc HB3.out.size _⟩

/-- the library's own bound holds some number -/
theorem maxl_shaped {w : World} (h : w.ShapedOpen Tryd.prog) : MaxLenAt w := Tryd.laysM143.s1_3 w h

end Go.Proofs.YtncojfcdkigmiaaDoor
