/- The walk of LexLays. -/
import Derived.Test.YtncojfcdkigmiaaDoorSame
import Derived.Laws.AppendOwnNone
namespace Go.Proofs.YtncojfcdkigmiaaDoor
open Go.RowKit Go.Sort

theorem info_tok : (Tryd.prog.info? 34).map (fun i => (i.zero, i.size, i.bytes)) = some (some (.agg #[.int .i64 0, .int .i64 0, .int .i64 0, .string ⟨#[]⟩]), 4, 40) := by kernel_rfl

def flatL (L : List Tok) : List Value := L.flatMap Tok.cells
theorem flatL_length (L : List Tok) : (flatL L).length = L.length * 4 := by
  induction L with
  | nil => rfl
  | cons t L ih => simp only [flatL, List.flatMap_cons, List.length_append, List.length_cons] at ih ⊢; rw [ih]; simp [Tok.cells]; omega
theorem flatL_get (L : List Tok) (i : Nat) (h : i < L.length) : (flatL L)[i * 4]? = some (.int .i64 L[i].kind) ∧ (flatL L)[i * 4 + 1]? = some (.int .i64 L[i].place) ∧ (flatL L)[i * 4 + 2]? = some (.int .i64 L[i].num) ∧ (flatL L)[i * 4 + 3]? = some (.string L[i].text) := by
  induction L generalizing i with
  | nil => simp at h
  | cons t L ih =>
    have hf : flatL (t :: L) = [.int .i64 t.kind, .int .i64 t.place, .int .i64 t.num, .string t.text] ++ flatL L := rfl
    match i, h with
    | 0, _ => rw [hf]; simp
    | i + 1, h =>
      have := ih i (by simpa using h)
      rw [hf]
      refine ⟨?_, ?_, ?_, ?_⟩
      · rw [List.getElem?_append_right (by simp; omega)]; simpa [show (i + 1) * 4 - 4 = i * 4 by omega] using this.1
      · rw [List.getElem?_append_right (by simp; omega)]; simpa [show (i + 1) * 4 + 1 - 4 = i * 4 + 1 by omega] using this.2.1
      · rw [List.getElem?_append_right (by simp; omega)]; simpa [show (i + 1) * 4 + 2 - 4 = i * 4 + 2 by omega] using this.2.2.1
      · rw [List.getElem?_append_right (by simp; omega)]; simpa [show (i + 1) * 4 + 3 - 4 = i * 4 + 3 by omega] using this.2.2.2
theorem flatL_one (L : List Tok) : ∀ u ∈ flatL L, u.oneCell' = true := by
  intro u hu
  obtain ⟨t, _, ht⟩ := List.mem_flatMap.1 hu
  simp only [Tok.cells, List.mem_cons, List.not_mem_nil, or_false] at ht
  rcases ht with rfl | rfl | rfl | rfl <;> rfl
theorem row_flat {w : World} {b off : Nat} {L : List Tok} (h : TokRow w b off L) : ∀ j u, (flatL L)[j]? = some u → w.cell? ((⟨b, off, none⟩ : Addr).add j) = some u := by
  intro j u hj
  have hjl := (List.getElem?_eq_some_iff.1 hj).1
  rw [flatL_length] at hjl
  have hi : j / 4 < L.length := by omega
  obtain ⟨f0, f1, f2, f3⟩ := flatL_get L (j / 4) hi
  obtain ⟨c0, c1, c2, c3⟩ := h (j / 4) L[j / 4] (List.getElem?_eq_getElem hi)
  have ha : ((⟨b, off, none⟩ : Addr).add j) = ⟨b, off + j, none⟩ := by unfold Addr.add; split <;> simp_all
  rw [ha]
  have hm : j % 4 = 0 ∨ j % 4 = 1 ∨ j % 4 = 2 ∨ j % 4 = 3 := by omega
  rcases hm with hm | hm | hm | hm
  · rw [show j = j / 4 * 4 by omega] at hj; rw [f0] at hj; rw [show off + j = off + j / 4 * 4 by omega, c0]; exact hj
  · rw [show j = j / 4 * 4 + 1 by omega] at hj; rw [f1] at hj; rw [show off + j = off + j / 4 * 4 + 1 by omega, c1]; exact hj
  · rw [show j = j / 4 * 4 + 2 by omega] at hj; rw [f2] at hj; rw [show off + j = off + j / 4 * 4 + 2 by omega, c2]; exact hj
  · rw [show j = j / 4 * 4 + 3 by omega] at hj; rw [f3] at hj; rw [show off + j = off + j / 4 * 4 + 3 by omega, c3]; exact hj

/-- a row of tokens of the call's own, as a slice of tokens -/
theorem own_toks {w : World} {B : Nat} {v : Value} {n : Nat} {L : List Tok} (h : w.ownsRow B 34 4 v n (flatL L)) : ∃ a cap, v = .slice a L.length cap ∧ IsToks w.heap.size w a L := by
  have hl := h.1
  rw [flatL_length] at hl
  obtain rfl : n = L.length := by omega
  rcases h.2 with ⟨rfl, h0⟩ | ⟨g, cap, cur, rfl, _, hg, _⟩
  · exact ⟨none, 0, by rw [h0], fun hne => absurd (List.eq_nil_of_length_eq_zero h0) hne⟩
  · refine ⟨_, cap, rfl, fun _ => ⟨g, 0, rfl, lt_of_heap hg, fun i t ht => ?_⟩⟩
    obtain ⟨hi, rfl⟩ := List.getElem?_eq_some_iff.1 ht
    obtain ⟨f0, f1, f2, f3⟩ := flatL_get L i hi
    have hc := fun j u hj => (addr_add g j) ▸ h.cells (g := g) rfl j u hj
    refine ⟨?_, ?_, ?_, ?_⟩
    · rw [Nat.zero_add]; exact hc _ _ f0
    · rw [Nat.zero_add]; exact hc _ _ f1
    · rw [Nat.zero_add]; exact hc _ _ f2
    · rw [Nat.zero_add]; exact hc _ _ f3

theorem same_self (L : List Tok) : sameB true L L = true :=
  same_yes rfl fun j _ _ _ => by simp [eqTok]

theorem TokRow.below {B b off : Nat} {w w' : World} {L : List Tok} (h : TokRow w b off L) (hb : Below B w w') (hlt : b < B) : TokRow w' b off L := fun i t ht => by
  obtain ⟨h0, h1, h2, h3⟩ := h i t ht
  rw [hb.cell hlt, hb.cell hlt, hb.cell hlt, hb.cell hlt]
  exact ⟨h0, h1, h2, h3⟩

/-- both texts tell the same of any tokens -/
theorem lay_both (L : List Tok) (hok : ∀ t ∈ L, TokOk t) : ∃ (x : ByteArray) (en : Int),
    (∀ (a : Option Addr) (cap : Nat) (w : World), IsToks w.heap.size w a L → KeysAt w → MarksAt w → PowAt w → 3 < w.heap.size → Calls Tryd.prog 8 #[.slice a L.length cap] w fun e w' => e = .returned (.tuple #[.string x, .int .i64 en]) ∧ Below w.heap.size w w') ∧
    (∀ (a : Option Addr) (cap : Nat) (w : World), IsToks w.heap.size w a L → Calls Tryd.prog 9 #[.slice a L.length cap] w fun e w' => e = .returned (.tuple #[.string x, .int .i64 en]) ∧ Below w.heap.size w w') := by
  by_cases hn : L.length ≤ 16384
  · have hv : ∃ (x : ByteArray) (en : Int), laidV L = .tuple #[.string x, .int .i64 en] := by
      unfold laidV; split <;> exact ⟨_, _, rfl⟩
    obtain ⟨x, en, hv⟩ := hv
    refine ⟨x, en, fun a cap w h1 h2 h3 h4 h5 => ?_, fun a cap w h1 => ?_⟩
    · exact (lexLay_in a cap L w h1 hn hok h2 h3 h4 h5).mono fun e w' ⟨he, hb⟩ => ⟨by rw [he, hv], hb⟩
    · exact (refLay_in a cap L w h1 hn hok).mono fun e w' ⟨he, hb⟩ => ⟨by rw [he, hv], hb⟩
  · refine ⟨⟨#[]⟩, 3, fun a cap w _ _ _ _ _ => ?_, fun a cap w _ => ?_⟩
    · exact (lexLay_long a L.length cap w (by omega)).mono fun e w' ⟨he, hw⟩ => ⟨he, by rw [← hw]; exact Below.refl _ _⟩
    · exact (refLay_long a L.length cap w (by omega)).mono fun e w' ⟨he, hw⟩ => ⟨he, by rw [← hw]; exact Below.refl _ _⟩

theorem same_is (a b : Option Addr) (ca cb : Nat) (L : List Tok) (w : World) (hA : IsToks w.heap.size w a L) (hB : IsToks w.heap.size w b L) (hn : L.length ≤ 1048576) :
    Calls Tryd.prog 10 #[.slice a L.length ca, .slice b L.length cb, .bool true] w fun e w' => e = .returned (.bool true) ∧ Below w.heap.size w w' :=
  (same_true a b ca cb L L w hA hB hn rfl).mono fun _ _ ⟨he, hb⟩ => ⟨by rw [he, same_self], hb⟩

theorem IsToks.more {B B' : Nat} {w : World} {a : Option Addr} {L : List Tok} (h : IsToks B w a L) (hB : B ≤ B') : IsToks B' w a L := fun hn => by
  obtain ⟨b, off, rfl, hlt, hr⟩ := h hn
  exact ⟨b, off, rfl, Nat.lt_of_lt_of_le hlt hB, hr⟩

set_option maxHeartbeats 4000000 in
theorem lays_some (b off cap : Nat) (L : List Tok) (w : World) (hR : TokRow w b off L) (hbw : b < w.heap.size) (hn : L.length ≤ 1048576) (hok : ∀ t ∈ L, TokOk t) (hK : KeysAt w) (hM : MarksAt w) (hP : PowAt w) (hg : 3 < w.heap.size) :
    Calls Tryd.prog 3 #[.slice (some ⟨b, off, none⟩) L.length cap] w fun e w' => e = .returned (.bool true) ∧ Below w.heap.size w w' := by
  have HR := Lib.hid (hR.below ((Below.refl w.heap.size w).alloc (Nat.le_refl _) (.cells #[] 34)) hbw)
  have HL : Hid (IsToks w.heap.size w (some ⟨b, off, none⟩) L) := fun _ => ⟨b, off, rfl, hbw, hR⟩
  clear hR
  obtain ⟨x, en, H1, H2⟩ := lay_both L hok
  have HJ := Lib.hid (And.intro H1 H2)
  have HT := Lib.hid (And.intro hK (And.intro hM hP))
  clear hok hK hM hP H1 H2
  obtain ⟨i0, hi, hz0, hz1, hz2⟩ := info_parts info_tok
  have HI := Lib.hid (And.intro hi (And.intro hz0 (And.intro hz1 hz2)))
  clear hi hz0 hz1 hz2
  go_enter Tryd.func3, Tryd.ntmps3
  go_wp2_with (at_builtin; refine wpList_append_own _ rfl _ _ 22 rfl w.heap.size 34 i0 _ 4 40 Tryd.underlying22 HI.out.1 HI.out.2.1 HI.out.2.2.1 HI.out.2.2.2 rfl (by decide) _ 0 [] rfl (World.ownsRow_made _ #[] 0 (Nat.le_refl _) (by decide) (by simp)) ⟨b, off, none⟩ L.length cap (flatL L) rfl ?c0 ?c1 ?c2 ?c3 ?c4 ?c5 ?_)
  case c0 => exact flatL_length L
  case c1 => exact row_flat HR.out
  case c2 => exact flatL_one L
  case c3 => unfold maxLen; omega
  case c4 => omega
  case c5 => simp
  intro v1 w1 hown1 hgrow1 _
  have hb1 : Below w.heap.size w w1 := ((Below.refl _ _).alloc (Nat.le_refl _) (.cells #[] 34)).grown hgrow1 (by simp) (fun q hq => by simp [Value.ownBlock] at hq; omega)
  obtain ⟨a1, c1, rfl, ht1⟩ := own_toks (L := L) (by simpa using hown1)
  have HO1 := Lib.hid ht1
  have HB1 := Lib.hid hb1
  have z1 := hb1.size
  clear ht1 hown1 hgrow1 hb1
  go_wp2_with (go_at_call 8; refine (HJ.out.1 a1 c1 _ HO1.out (HT.out.1.below HB1.out) (HT.out.2.1.below HB1.out) (HT.out.2.2.below HB1.out hg) (by omega)).mono ?_)
  rintro e w2 ⟨rfl, hb2⟩
  have HB2 := Lib.hid (HB1.out.trans (hb2.mono z1))
  have HO2 := Lib.hid (HO1.out.below hb2 (Nat.le_refl _) |>.more hb2.size)
  have z2 := HB2.out.size
  clear hb2
  go_wp2_with (go_at_call 9; refine (HJ.out.2 _ cap _ ((HL.out.below HB2.out (Nat.le_refl _)).more z2)).mono ?_)
  rintro e w3 ⟨rfl, hb3⟩
  have HB3 := Lib.hid (HB2.out.trans (hb3.mono z2))
  have HO3 := Lib.hid (HO2.out.below hb3 (Nat.le_refl _) |>.more hb3.size)
  have z3 := HB3.out.size
  clear hb3
  go_wp2_with (go_at_call 10; refine (same_is a1 _ c1 cap L _ HO3.out ((HL.out.below HB3.out (Nat.le_refl _)).more z3) hn).mono ?_)
  rintro e w4 ⟨rfl, hb4⟩
  have HB4 := Lib.hid (HB3.out.trans (hb4.mono z3))
  clear hb4
  go_wp2
  go_ret
  exact ⟨rfl, HB4.out⟩

set_option maxHeartbeats 4000000 in
theorem lays_empty (ad : Addr) (cap : Nat) (L : List Tok) (w : World) (hL0 : L = []) (hn : L.length ≤ 1048576) (hok : ∀ t ∈ L, TokOk t) (hK : KeysAt w) (hM : MarksAt w) (hP : PowAt w) (hg : 3 < w.heap.size) :
    Calls Tryd.prog 3 #[.slice (some ad) L.length cap] w fun e w' => e = .returned (.bool true) ∧ Below w.heap.size w w' := by
  have HL : Hid (IsToks w.heap.size w (some ad) L) := fun h => absurd hL0 h
  have HL0 := Lib.hid hL0
  clear hL0
  obtain ⟨x, en, H1, H2⟩ := lay_both L hok
  have HJ := Lib.hid (And.intro H1 H2)
  have HT := Lib.hid (And.intro hK (And.intro hM hP))
  clear hok hK hM hP H1 H2
  obtain ⟨i0, hi, hz0, hz1, hz2⟩ := info_parts info_tok
  have HI := Lib.hid (And.intro hi (And.intro hz0 (And.intro hz1 hz2)))
  clear hi hz0 hz1 hz2
  go_enter Tryd.func3, Tryd.ntmps3
  go_wp2_with (at_builtin; refine wpList_append_own _ rfl _ _ 22 rfl w.heap.size 34 i0 _ 4 40 Tryd.underlying22 HI.out.1 HI.out.2.1 HI.out.2.2.1 HI.out.2.2.2 rfl (by decide) _ 0 [] rfl (World.ownsRow_made _ #[] 0 (Nat.le_refl _) (by decide) (by simp)) ad L.length cap (flatL L) rfl ?c0 ?c1 ?c2 ?c3 ?c4 ?c5 ?_)
  case c0 => exact flatL_length L
  case c1 => exact fun j u hj => by rw [HL0.out] at hj; simp [flatL] at hj
  case c2 => exact flatL_one L
  case c3 => unfold maxLen; omega
  case c4 => omega
  case c5 => simp
  intro v1 w1 hown1 hgrow1 _
  have hb1 : Below w.heap.size w w1 := ((Below.refl _ _).alloc (Nat.le_refl _) (.cells #[] 34)).grown hgrow1 (by simp) (fun q hq => by simp [Value.ownBlock] at hq; omega)
  obtain ⟨a1, c1, rfl, ht1⟩ := own_toks (L := L) (by simpa using hown1)
  have HO1 := Lib.hid ht1
  have HB1 := Lib.hid hb1
  have z1 := hb1.size
  clear ht1 hown1 hgrow1 hb1
  go_wp2_with (go_at_call 8; refine (HJ.out.1 a1 c1 _ HO1.out (HT.out.1.below HB1.out) (HT.out.2.1.below HB1.out) (HT.out.2.2.below HB1.out hg) (by omega)).mono ?_)
  rintro e w2 ⟨rfl, hb2⟩
  have HB2 := Lib.hid (HB1.out.trans (hb2.mono z1))
  have HO2 := Lib.hid (HO1.out.below hb2 (Nat.le_refl _) |>.more hb2.size)
  have z2 := HB2.out.size
  clear hb2
  go_wp2_with (go_at_call 9; refine (HJ.out.2 _ cap _ ((HL.out.below HB2.out (Nat.le_refl _)).more z2)).mono ?_)
  rintro e w3 ⟨rfl, hb3⟩
  have HB3 := Lib.hid (HB2.out.trans (hb3.mono z2))
  have HO3 := Lib.hid (HO2.out.below hb3 (Nat.le_refl _) |>.more hb3.size)
  have z3 := HB3.out.size
  clear hb3
  go_wp2_with (go_at_call 10; refine (same_is a1 _ c1 cap L _ HO3.out ((HL.out.below HB3.out (Nat.le_refl _)).more z3) hn).mono ?_)
  rintro e w4 ⟨rfl, hb4⟩
  have HB4 := Lib.hid (HB3.out.trans (hb4.mono z3))
  clear hb4
  go_wp2
  go_ret
  exact ⟨rfl, HB4.out⟩

theorem toks_nil (B : Nat) (w : World) (a : Option Addr) : IsToks B w a [] := fun h => absurd rfl h

set_option maxHeartbeats 4000000 in
theorem lays_nil (w : World) (hK : KeysAt w) (hM : MarksAt w) (hP : PowAt w) (hg : 3 < w.heap.size) :
    Calls Tryd.prog 3 #[.slice none 0 0] w fun e w' => e = .returned (.bool true) ∧ Below w.heap.size w w' := by
  obtain ⟨x, en, H1, H2⟩ := lay_both [] (fun t h => by cases h)
  have HJ1 : Hid (∀ (a : Option Addr) (cap : Nat) (w : World), KeysAt w → MarksAt w → PowAt w → 3 < w.heap.size → Calls Tryd.prog 8 #[.slice a 0 cap] w fun e w' => e = .returned (.tuple #[.string x, .int .i64 en]) ∧ Below w.heap.size w w') := fun a cap w => H1 a cap w (toks_nil _ _ _)
  have HJ2 : Hid (∀ (a : Option Addr) (cap : Nat) (w : World), Calls Tryd.prog 9 #[.slice a 0 cap] w fun e w' => e = .returned (.tuple #[.string x, .int .i64 en]) ∧ Below w.heap.size w w') := fun a cap w => H2 a cap w (toks_nil _ _ _)
  have HJ3 : Hid (∀ (a b : Option Addr) (ca cb : Nat) (w : World), Calls Tryd.prog 10 #[.slice a 0 ca, .slice b 0 cb, .bool true] w fun e w' => e = .returned (.bool true) ∧ Below w.heap.size w w') := fun a b ca cb w => same_is a b ca cb [] w (toks_nil _ _ _) (toks_nil _ _ _) (by decide)
  have HB1 := Lib.hid ((Below.refl w.heap.size w).alloc (Nat.le_refl _) (.cells #[] 34))
  have HT := Lib.hid (And.intro hK (And.intro hM hP))
  clear hK hM hP H1 H2
  obtain ⟨i0, hi, hz0, hz1, hz2⟩ := info_parts info_tok
  have HI := Lib.hid (And.intro hi (And.intro hz0 (And.intro hz1 hz2)))
  clear hi hz0 hz1 hz2
  go_enter Tryd.func3, Tryd.ntmps3
  go_wp2_with (at_builtin; refine wpList_append_own_none _ rfl _ _ 22 rfl w.heap.size 34 i0 4 Tryd.underlying22 HI.out.1 _ 0 [] rfl (World.ownsRow_made _ #[] 0 (Nat.le_refl _) (by decide) (by simp)) rfl ?_)
  refine (HJ1.out _ 0 _ (HT.out.1.below HB1.out) (HT.out.2.1.below HB1.out) (HT.out.2.2.below HB1.out hg) (by simp; omega)).mono ?_
  rintro e w2 ⟨rfl, hb2⟩
  have HB2 := Lib.hid (HB1.out.trans (hb2.mono (by simp)))
  have z2 := HB2.out.size
  clear hb2
  go_wp2_with (go_at_call 9; refine (HJ2.out _ 0 _).mono ?_)
  rintro e w3 ⟨rfl, hb3⟩
  have HB3 := Lib.hid (HB2.out.trans (hb3.mono z2))
  have z3 := HB3.out.size
  clear hb3
  go_wp2_with (go_at_call 10; refine (HJ3.out _ _ 0 0 _).mono ?_)
  rintro e w4 ⟨rfl, hb4⟩
  have HB4 := Lib.hid (HB3.out.trans (hb4.mono z3))
  clear hb4
  go_wp2
  go_ret
  exact ⟨rfl, HB4.out⟩

end Go.Proofs.YtncojfcdkigmiaaDoor
