/- An exit's text. -/
import Derived.Test.YtlomdlblohnfmaaDoorIrLine
import Derived.Test.YtlomdlblohnfmaaDoorIrExit
namespace Go.Proofs.YtlomdlblohnfmaaDoor
open Go.RowKit Go.Sort

/-- a row that was written out -/
theorem rowS_new (w : World) (L : List ByteArray) (n : Nat) (hn : n = L.length) (h : n ≤ 1000) : RowS (w.alloc (.cells (strCs L).toArray 9)) w.heap.size (.slice (some ⟨w.heap.size, 0, none⟩) n n) L := by
  subst hn
  exact World.ownsRow_lit (base := w.heap.size) (e := 9) (size := 1) w (strCs L).toArray L.length (Nat.le_refl _) (by unfold maxLen; omega) (by simp [strCs])
/-- words put together, of a row that was just written out -/
theorem words_new (L : List ByteArray) (n M : Nat) (hn : n = L.length) (h : n ≤ 1000) (hM : ∀ x ∈ L, x.size ≤ M) (hMs : M ≤ 2000000) (w : World) :
    Calls Tryd.prog 52 #[.slice (some ⟨w.heap.size, 0, none⟩) n n] (w.alloc (.cells (strCs L).toArray 9)) fun e w' => e = .returned (.string (wordsL L)) ∧ Below w.heap.size w w' := by
  have hs : (w.alloc (.cells (strCs L).toArray 9)).heap.size = w.heap.size + 1 := by simp
  have := words_ok L (.slice (some ⟨w.heap.size, 0, none⟩) n n) w.heap.size _ (rowS_new w L n hn h) M hM (by
    rw [← hn]
    have : n * (M + 1) ≤ 1000 * 2000001 := Nat.mul_le_mul h (by omega)
    omega)
  exact this.mono fun e w' ⟨he, hb⟩ => ⟨he, ((Below.refl _ _).alloc (Nat.le_refl _) _).trans (hb.mono (by rw [hs]; omega))⟩
/-- an exit's text -/
def exitL (x : IrX) : ByteArray :=
  if x.kind = 1 then wordsL [strL [106, 117, 109, 112], numZ x.to]
  else if x.kind = 2 then wordsL [strL [98, 114, 97, 110, 99, 104], regL x.a, numZ x.to, numZ x.els]
  else if x.kind = 4 then wordsL [strL [115, 101, 116], regL x.a, regL x.d, numZ x.to, numZ x.els]
  else if x.a < 0 then strL [114, 101, 116, 117, 114, 110]
  else wordsL [strL [114, 101, 116, 117, 114, 110], regL x.a]
structure ExOk (x : IrX) : Prop where
  ta : I64 x.a
  td : I64 x.d
  tt : I64 x.to
  te : I64 x.els
set_option maxRecDepth 100000 in
set_option maxHeartbeats 4000000 in
theorem exitLine_ok (x : IrX) (hx : ExOk x) (w : World) (hE : IE w) :
    Calls Tryd.prog 57 #[exitV x] w fun e w' => e = .returned (.string (exitL x)) ∧ Below w.heap.size w w' := by
  have HXo := Lib.hid hx
  have HE := Lib.hid hE
  have hba : Below w.heap.size w (w.alloc (.cells #[.int .i64 x.kind, .int .i64 x.a, .int .i64 x.d, .int .i64 x.to, .int .i64 x.els] 38)) := (Below.refl _ _).alloc (Nat.le_refl _) _
  have hex := exAt_new (heap_alloc_new w (.cells #[.int .i64 x.kind, .int .i64 x.a, .int .i64 x.d, .int .i64 x.to, .int .i64 x.els] 38))
  clear hE hx
  unfold exitV
  go_enter Tryd.func57, Tryd.ntmps57
  go_upto_region 1 with fail
  generalize World.alloc w _ = wb at *
  have HBa := Lib.hid hba
  have HEx := Lib.hid hex
  clear hba hex
  have hHB := fun d os => HBa.out.trans ((below_regrown wb d os).mono HBa.out.size)
  have q3 := fun d os => cell_regrown HEx.out.c3 d os
  have q4 := fun d os => cell_regrown HEx.out.c4 d os
  have C1 := fun d os => Calls.regrown_of (itoa_ok x.to _ (HE.out.below (hHB d os)) HXo.out.tt)
  have C2 := fun d os => Calls.regrown_of (itoa_ok x.els _ (HE.out.below (hHB d os)) HXo.out.te)
  have D1 := Lib.hid C1
  have D2 := Lib.hid C2
  clear hHB C1 C2
  refine wp_region_quiet_below (by kernel_rfl) (by kernel_rfl) ?_
  repeat (go_big_quiet_step (first | exact D1.out _ _ | exact D2.out _ _))
  refine wpQuiet_nil ?_
  intro _ hw'
  obtain ⟨⟨dq, osq⟩, hw''⟩ := hw'
  have HB2 := Lib.hid (HBa.out.trans ((below_regrown wb dq osq).mono HBa.out.size))
  obtain ⟨c0, c1, c2, c3, c4⟩ := HEx.out.below (below_regrown wb dq osq)
  rw [← hw''] at HB2 c0 c1 c2 c3 c4
  rename_i w2
  clear q3 q4 hw''
  have HE2 := Lib.hid (HE.out.below HB2.out)
  by_cases h1 : x.kind = 1
  · have he := Lib.hid (show exitL x = wordsL [strL [106, 117, 109, 112], numZ x.to] by unfold exitL; rw [if_pos h1])
    have t1 : (x.kind == 1) = true := by rw [h1]; rfl
    have HW := Lib.hid (words_new [strL [106, 117, 109, 112], numZ x.to] 2 22 rfl (by decide) (fun y hy => by
      rcases List.mem_cons.1 hy with rfl | hy
      · decide
      · rw [List.mem_singleton.1 hy]; exact Nat.le_trans (numZ_size HXo.out.tt) (by decide)) (by decide) w2)
    clear h1
    go_wp2_with (go_at_call 52; refine HW.out.mono ?_; rintro e w9 ⟨rfl, hb9⟩; have HB9 := Lib.hid (HB2.out.trans (hb9.mono HB2.out.size)); clear hb9)
    go_ret
    exact ⟨by rw [he.out]; rfl, HB9.out⟩
  have t1 : (x.kind == 1) = false := by simpa using h1
  by_cases h2 : x.kind = 2
  · have he := Lib.hid (show exitL x = wordsL [strL [98, 114, 97, 110, 99, 104], regL x.a, numZ x.to, numZ x.els] by unfold exitL; rw [if_neg h1, if_pos h2])
    have t2 : (x.kind == 2) = true := by rw [h2]; rfl
    have HRa := Lib.hid (fun w1 hE1 => reg_text x.a w1 hE1 HXo.out.ta)
    have HW := Lib.hid (fun w1 => words_new [strL [98, 114, 97, 110, 99, 104], regL x.a, numZ x.to, numZ x.els] 4 22 rfl (by decide) (fun y hy => by
      rcases List.mem_cons.1 hy with rfl | hy
      · decide
      rcases List.mem_cons.1 hy with rfl | hy
      · exact regL_size HXo.out.ta
      rcases List.mem_cons.1 hy with rfl | hy
      · exact Nat.le_trans (numZ_size HXo.out.tt) (by decide)
      · rw [List.mem_singleton.1 hy]; exact Nat.le_trans (numZ_size HXo.out.te) (by decide)) (by decide) w1)
    clear h1 h2
    go_wp2_with (first | (go_at_call 50; (with_reducible refine (HRa.out _ HE2.out).mono ?_); rintro e w3 ⟨rfl, hb3⟩; have HB3 := Lib.hid (HB2.out.trans (hb3.mono HB2.out.size)); clear hb3) | (go_at_call 52; refine (HW.out _).mono ?_; rintro e w9 ⟨rfl, hb9⟩; have HB9 := Lib.hid (HB3.out.trans (hb9.mono HB3.out.size)); clear hb9))
    go_ret
    exact ⟨by rw [he.out]; rfl, HB9.out⟩
  have t2 : (x.kind == 2) = false := by simpa using h2
  by_cases h4 : x.kind = 4
  · have he := Lib.hid (show exitL x = wordsL [strL [115, 101, 116], regL x.a, regL x.d, numZ x.to, numZ x.els] by unfold exitL; rw [if_neg h1, if_neg h2, if_pos h4])
    have t4 : (x.kind == 4) = true := by rw [h4]; rfl
    have HRa := Lib.hid (fun w1 hE1 => reg_text x.a w1 hE1 HXo.out.ta)
    have HRd := Lib.hid (fun w1 hE1 => reg_text x.d w1 hE1 HXo.out.td)
    have HW := Lib.hid (fun w1 => words_new [strL [115, 101, 116], regL x.a, regL x.d, numZ x.to, numZ x.els] 5 22 rfl (by decide) (fun y hy => by
      rcases List.mem_cons.1 hy with rfl | hy
      · decide
      rcases List.mem_cons.1 hy with rfl | hy
      · exact regL_size HXo.out.ta
      rcases List.mem_cons.1 hy with rfl | hy
      · exact regL_size HXo.out.td
      rcases List.mem_cons.1 hy with rfl | hy
      · exact Nat.le_trans (numZ_size HXo.out.tt) (by decide)
      · rw [List.mem_singleton.1 hy]; exact Nat.le_trans (numZ_size HXo.out.te) (by decide)) (by decide) w1)
    have HCl := Lib.hid (show ∀ w', Below w2.heap.size w2 w' → w'.cell? ⟨w.heap.size, 1, none⟩ = some (.int .i64 x.a) ∧ w'.cell? ⟨w.heap.size, 2, none⟩ = some (.int .i64 x.d) from fun w' hb => by
      have hl : w.heap.size < w2.heap.size := World.block_lt_of_cell? w2 _ c1
      exact ⟨(hb.cell hl).trans c1, (hb.cell hl).trans c2⟩)
    clear h1 h2 h4
    go_upto_region 8 with fail
    go_region_with (first
      | (go_at_call 50; (with_reducible refine (HRa.out _ (HE2.out.below (Below.refl _ _).drew)).mono ?_); rintro e w3 ⟨rfl, hb3⟩; have HB3 := Lib.hid (show Below w2.heap.size w2 w3 from (Below.refl _ _).drew.trans (hb3.mono (Nat.le_refl _))); have c1 := (HCl.out _ HB3.out).1; have c2 := (HCl.out _ HB3.out).2; clear hb3)
      | (go_at_call 50; (with_reducible refine (HRd.out _ (HE2.out.below HB3.out)).mono ?_); rintro e w4 ⟨rfl, hb4⟩; have HB4 := Lib.hid (HB3.out.trans (hb4.mono HB3.out.size)); clear hb4)
      | (go_at_call 52; refine (HW.out _).mono ?_; rintro e w9 ⟨rfl, hb9⟩; have HB9 := Lib.hid (HB2.out.trans ((HB4.out.trans (hb9.mono HB4.out.size)).mono HB2.out.size)); clear hb9))
    all_goals go_wp2
    all_goals go_ret
    all_goals exact ⟨by rw [he.out]; rfl, HB9.out⟩
  have t4 : (x.kind == 4) = false := by simpa using h4
  by_cases h0 : x.a < 0
  · have he := Lib.hid (show exitL x = strL [114, 101, 116, 117, 114, 110] by unfold exitL; rw [if_neg h1, if_neg h2, if_neg h4, if_pos h0])
    clear h1 h2 h4
    go_wp2_with fail
    go_ret
    exact ⟨by rw [he.out]; rfl, HB2.out⟩
  · have he := Lib.hid (show exitL x = wordsL [strL [114, 101, 116, 117, 114, 110], regL x.a] by unfold exitL; rw [if_neg h1, if_neg h2, if_neg h4, if_neg h0])
    have HRa := Lib.hid (fun w1 hE1 => reg_text x.a w1 hE1 HXo.out.ta)
    have HW := Lib.hid (fun w1 => words_new [strL [114, 101, 116, 117, 114, 110], regL x.a] 2 22 rfl (by decide) (fun y hy => by
      rcases List.mem_cons.1 hy with rfl | hy
      · decide
      · rw [List.mem_singleton.1 hy]; exact regL_size HXo.out.ta) (by decide) w1)
    have h5 : 0 ≤ x.a := by omega
    clear h1 h2 h4 h0
    go_wp2_with (first | (go_at_call 50; (with_reducible refine (HRa.out _ HE2.out).mono ?_); rintro e w3 ⟨rfl, hb3⟩; have HB3 := Lib.hid (HB2.out.trans (hb3.mono HB2.out.size)); clear hb3) | (go_at_call 52; refine (HW.out _).mono ?_; rintro e w9 ⟨rfl, hb9⟩; have HB9 := Lib.hid (HB3.out.trans (hb9.mono HB3.out.size)); clear hb9))
    go_ret
    exact ⟨by rw [he.out]; rfl, HB9.out⟩
end Go.Proofs.YtlomdlblohnfmaaDoor

