/- strconv.ParseUint at the bases 10 and 16, at most 32 bits: a number, or any error. -/
import Derived.Test.YtncojfcdkigmiaaDoorParse
namespace Go.Proofs.YtncojfcdkigmiaaDoor
open Go.RowKit

/-- the library's two errors stand in their variables -/
def ErrsAt (w : World) : Prop := (∃ ev, w.cell? ⟨4, 0, none⟩ = some ev ∧ (ev = .nilIface ∨ ∃ te pe, ev = .iface te pe)) ∧ ∃ ev, w.cell? ⟨5, 0, none⟩ = some ev ∧ (ev = .nilIface ∨ ∃ te pe, ev = .iface te pe)
theorem ErrsAt.below {w w' : World} (h : ErrsAt w) (hb : Below w.heap.size w w') : ErrsAt w' := by
  obtain ⟨⟨a, h1, h2⟩, b, h3, h4⟩ := h
  exact ⟨⟨a, by rw [hb.cell (World.block_lt_of_cell? w _ h1)]; exact h1, h2⟩, b, by rw [hb.cell (World.block_lt_of_cell? w _ h3)]; exact h3, h4⟩
theorem ErrsAt.grown {w w' : World} {b : Nat} (h : ErrsAt w) (hg : w.grownBy w' (some b)) (hb : 5 < b ∧ 4 < b) : ErrsAt w' := by
  obtain ⟨⟨x, h1, h2⟩, y, h3, h4⟩ := h
  have e1 := World.block_lt_of_cell? w _ h1
  have e3 := World.block_lt_of_cell? w _ h3
  refine ⟨⟨x, ?_, h2⟩, y, ?_, h4⟩
  · unfold World.cell? at h1 ⊢
    rw [hg.block _ e1 (by simp; omega)]; exact h1
  · unfold World.cell? at h3 ⊢
    rw [hg.block _ e3 (by simp; omega)]; exact h3
theorem ErrsAt.drewN {w : World} (h : ErrsAt w) (n : Nat) : ErrsAt (w.drewN n) := h

/-- what the library's reader tells -/
def Parsed (r : Option Nat) (w : World) (e : Ending) (w' : World) : Prop :=
  (match r with
    | some n => e = .returned (.tuple #[.int .u64 n, .nilIface])
    | none => ∃ (x : Int) (v : Value), e = .returned (.tuple #[.int .u64 x, .iface 118 v])) ∧ Below w.heap.size w w'

theorem parse_of (base : Int) (t : ByteArray) (r : Option Nat) (w : World) (hmax : t.size ≤ 281474976710656) (hE : ErrsAt w) (hP : Calls Tryd.prog 80 #[.string t, .int .i64 base, .int .i64 32] w (ParsedIn r w)) :
    Calls Tryd.prog 67 #[.string t, .int .i64 base, .int .i64 32] w (Parsed r w) := by
  have HP := Lib.hid hP
  have HE := Lib.hid hE
  clear hP hE
  go_enter Tryd.func67, Tryd.ntmps67
  go_wp2_with (go_at_call 80; refine HP.out.mono ?_)
  rintro e w1 ⟨he, hb⟩
  have HB := Lib.hid hb
  have HE1 := Lib.hid (HE.out.below hb)
  have hsz := hb.size
  clear hb
  cases r with
  | some n =>
    subst he
    go_wp2
    go_ret2
    exact ⟨rfl, HB.out⟩
  | none =>
    obtain ⟨x, c, hc, rfl⟩ := he
    obtain ⟨⟨e1, v1, i1⟩, e2, v2, i2⟩ := HE1.out
    have HV := Lib.hid (And.intro (And.intro v1 i1) (And.intro v2 i2))
    clear v1 i1 v2 i2
    rcases hc with rfl | rfl
    · go_wp2_with (go_at_call 81; refine (Tryd.strconv_toError_range _ t base 32 e2 _ hmax HV.out.2.1 HV.out.2.2).mono ?_; rintro e w2 ⟨N, rfl, _, _, hb2⟩; have HB2 := Lib.hid hb2; clear hb2)
      go_ret2
      exact ⟨⟨x, _, rfl⟩, HB.out.trans (HB2.out.mono hsz)⟩
    · go_wp2_with (go_at_call 81; refine (Tryd.strconv_toError_syntax _ t base 32 e1 _ hmax HV.out.1.1 HV.out.1.2).mono ?_; rintro e w2 ⟨N, rfl, _, _, hb2⟩; have HB2 := Lib.hid hb2; clear hb2)
      go_ret2
      exact ⟨⟨x, _, rfl⟩, HB.out.trans (HB2.out.mono hsz)⟩
theorem parse10_ok (t : ByteArray) (w : World) (hne : t.size ≠ 0) (hmax : t.size ≤ 1048576) (hE : ErrsAt w) : Calls Tryd.prog 67 #[.string t, .int .i64 10, .int .i64 32] w (Parsed (capV 10 0 t.data.toList) w) :=
  parse_of 10 t _ w (by omega) hE (parse10_in t hne (by omega) w)
theorem parse16_ok (t : ByteArray) (w : World) (hne : t.size ≠ 0) (hmax : t.size ≤ 1048576) (hE : ErrsAt w) : Calls Tryd.prog 67 #[.string t, .int .i64 16, .int .i64 32] w (Parsed (capV 16 0 t.data.toList) w) :=
  parse_of 16 t _ w (by omega) hE (parse16_in t hne (by omega) w)
theorem parse_yes {base : Int} {t : ByteArray} {r : Option Nat} {n : Nat} {w : World} (hr : r = some n) (h : Calls Tryd.prog 67 #[.string t, .int .i64 base, .int .i64 32] w (Parsed r w)) :
    Calls Tryd.prog 67 #[.string t, .int .i64 base, .int .i64 32] w fun e w' => e = .returned (.tuple #[.int .u64 n, .nilIface]) ∧ Below w.heap.size w w' := by subst hr; exact h
theorem parse_no {base : Int} {t : ByteArray} {r : Option Nat} {w : World} (hr : r = none) (h : Calls Tryd.prog 67 #[.string t, .int .i64 base, .int .i64 32] w (Parsed r w)) :
    Calls Tryd.prog 67 #[.string t, .int .i64 base, .int .i64 32] w fun e w' => ∃ (x : Int) (v : Value), e = .returned (.tuple #[.int .u64 x, .iface 118 v]) ∧ Below w.heap.size w w' := by
  subst hr; exact h.mono fun _ _ ⟨⟨x, v, he⟩, hb⟩ => ⟨x, v, he, hb⟩

end Go.Proofs.YtncojfcdkigmiaaDoor
