/- An address in a global is right. -/
import Derived.Test.YtlomdlblohnfmaaDoorIrWordP
namespace Go.Proofs.YtlomdlblohnfmaaDoor
open Go.RowKit

def wordV (x : IrW) : Value := .agg #[.int .i64 x.at_, .int .i64 x.kind, .int .i64 x.num, .string x.text]
structure WdAt (w : World) (b : Nat) (x : IrW) : Prop where
  c0 : w.cell? ⟨b, 0, none⟩ = some (.int .i64 x.at_)
  c1 : w.cell? ⟨b, 1, none⟩ = some (.int .i64 x.kind)
  c2 : w.cell? ⟨b, 2, none⟩ = some (.int .i64 x.num)
  c3 : w.cell? ⟨b, 3, none⟩ = some (.string x.text)
theorem WdAt.below {w w' : World} {b : Nat} {x : IrW} (h : WdAt w b x) (hb : Below w.heap.size w w') : WdAt w' b x := by
  have hl : b < w.heap.size := World.block_lt_of_cell? w _ h.c0
  exact ⟨by rw [hb.cell hl]; exact h.c0, by rw [hb.cell hl]; exact h.c1, by rw [hb.cell hl]; exact h.c2, by rw [hb.cell hl]; exact h.c3⟩
theorem wdAt_new {w : World} {b : Nat} {T : TypeId} {x : IrW} (h : w.heap[b]? = some (.cells #[.int .i64 x.at_, .int .i64 x.kind, .int .i64 x.num, .string x.text] T (0, 0))) : WdAt w b x := by
  constructor <;> simp [World.cell?, h]
theorem text_isEmpty (s : ByteArray) : s.toList.isEmpty = decide (s.size = 0) := by
  rw [Lib.toList_data]
  cases h : s.data.toList with
  | nil => simp [ByteArray.size, ← Array.length_toList, h]
  | cons x r => simp [ByteArray.size, ← Array.length_toList, h]
set_option maxRecDepth 100000 in
set_option maxHeartbeats 8000000 in
theorem word_okI (ag : Option Addr) (ng' cg : Nat) (as1 : Option Addr) (ns cs : Nat) (fs : Value) (hfs : ∃ a n c, fs = .slice a n c) (mg mf ng nf : Nat) (fG fF : ByteArray → Int × Bool) (x : IrW) (w : World) (hG : MapI w mg ng fG) (hFm : MapI w mf nf fF) (ht : x.text.size ≤ maxLen) (r : Bool) (hr : wordOk fG fF (ns : Nat) x = r) :
    Calls Tryd.prog 41 #[progV (.slice ag ng' cg) (.slice as1 ns cs) fs mg mf, wordV x] w fun e w' => e = .returned (.bool r) ∧ Below w.heap.size w w' := by
  obtain ⟨af, nf', cf, rfl⟩ := hfs
  obtain ⟨h2n, hba⟩ := two_new w (.cells #[.slice ag ng' cg, .slice as1 ns cs, .slice af nf' cf, .map (some mg), .map (some mf)] 70) (.cells #[.int .i64 x.at_, .int .i64 x.kind, .int .i64 x.num, .string x.text] 52)
  have hp1 := prAt_new (ir_new1 w (.cells #[.slice ag ng' cg, .slice as1 ns cs, .slice af nf' cf, .map (some mg), .map (some mf)] 70) (.cells #[.int .i64 x.at_, .int .i64 x.kind, .int .i64 x.num, .string x.text] 52))
  have hw1 := wdAt_new h2n
  have hl1 := (hG.below hba).look2 ht
  have hl2 := (hFm.below hba).look2 ht
  clear hG hFm ht h2n
  unfold progV wordV
  go_enter Tryd.func41, Tryd.ntmps41
  go_upto_region 1 with fail
  generalize World.alloc _ (.cells #[.int .i64 x.at_, _, _, _] _) = w3 at *
  have HBa := Lib.hid hba
  obtain ⟨p0, p1, p2, p3, p4⟩ := hp1
  obtain ⟨q0, q1, q2, q3⟩ := hw1
  have hte := text_isEmpty x.text
  unfold wordOk at hr
  generalize (fG x.text).1 = xg at *
  generalize (fG x.text).2 = bg at *
  generalize (fF x.text).1 = xf at *
  generalize (fF x.text).2 = bf at *
  clear hba
  by_cases h5 : x.kind = 5
  · rw [if_pos h5] at hr
    have HR := Lib.hid hr
    have t5 : (x.kind == 5) = true := by rw [h5]; rfl
    clear h5 hr hte
    cases bg <;>
    · go_wp2_with fail
      go_ret
      exact ⟨by rw [← HR.out]; rfl, HBa.out⟩
  rw [if_neg h5] at hr
  have t5 : (x.kind == 5) = false := by simpa using h5
  by_cases h3 : x.kind = 3
  · rw [if_pos h3] at hr
    have HR := Lib.hid hr
    have t3 : (x.kind == 3) = true := by rw [h3]; rfl
    clear h5 h3 hr hte
    cases bf <;>
    · go_wp2_with fail
      go_ret
      exact ⟨by rw [← HR.out]; rfl, HBa.out⟩
  rw [if_neg h3] at hr
  have t3 : (x.kind == 3) = false := by simpa using h3
  by_cases h6 : x.kind = 6
  · rw [if_pos h6] at hr
    have t6 : (x.kind == 6) = true := by rw [h6]; rfl
    clear h5 h3 h6
    by_cases z1 : x.text.size = 0
    · rw [decide_eq_true z1] at hr hte
      clear z1
      by_cases z2 : 0 ≤ x.num
      · rw [decide_eq_true z2] at hr
        have HR := Lib.hid hr
        clear hr
        go_wp2_with fail
        go_ret
        exact ⟨by rw [← HR.out]; rfl, HBa.out⟩
      · rw [decide_eq_false z2] at hr
        have HR := Lib.hid hr
        have z3 : x.num < 0 := by omega
        clear hr z2
        go_wp2_with fail
        go_ret
        exact ⟨by rw [← HR.out]; rfl, HBa.out⟩
    · rw [decide_eq_false z1] at hr hte
      have HR := Lib.hid hr
      clear hr z1
      go_wp2_with fail
      go_ret
      exact ⟨by rw [← HR.out]; rfl, HBa.out⟩
  · rw [if_neg h6] at hr
    have HR := Lib.hid hr
    have t6 : (x.kind == 6) = false := by simpa using h6
    clear h5 h3 h6 hr hte
    go_wp2_with fail
    go_ret
    exact ⟨by rw [← HR.out]; rfl, HBa.out⟩
end Go.Proofs.YtlomdlblohnfmaaDoor

