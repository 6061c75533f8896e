/- Blank and comments: the program's reader. -/
import Derived.Test.YtncojfcdkigmiaaDoorLex
import Derived.Test.YtncojfcdkigmiaaDoorTok
import Derived.Deep.RegionWith
import Derived.Lib.Bytes2
namespace Go.Proofs.YtncojfcdkigmiaaDoor
open Go.RowKit

set_option maxHeartbeats 1000000 in
theorem begins_ok (b k : Nat) (cs : Array Value) (T : TypeId) (s p : ByteArray) (w : World) (h : TextAt w b cs T s k) (hk : k ≤ s.size) :
    Calls Tryd.prog 45 #[.pointer (some ⟨b, 0, none⟩), .string p] w fun e w' => e = .returned (.bool (Lib.hasPrefix (sfx s k) p.data.toList)) ∧ ∃ n, w' = w.drewN n := by
  have c0 := h.c0
  have c1 := h.c1
  clear h
  rw [← sfx_extract]
  go_enter Tryd.func45, Tryd.ntmps45
  go_wp2_with fail
  go_quiet ((go_at_call 64; exact Calls.quiet_of_same (Tryd.strings_HasPrefix _ _ _)))
  go_wp2
  go_ret
  exact ⟨rfl, _, rfl⟩
theorem begins_is (r : Bool) (b k : Nat) (cs : Array Value) (T : TypeId) (s p : ByteArray) (w : World) (h : TextAt w b cs T s k) (hk : k ≤ s.size) (hr : Lib.hasPrefix (sfx s k) p.data.toList = r) :
    Calls Tryd.prog 45 #[.pointer (some ⟨b, 0, none⟩), .string p] w fun e w' => e = .returned (.bool r) ∧ ∃ n, w' = w.drewN n :=
  (begins_ok b k cs T s p w h hk).mono fun _ _ ⟨he, hw⟩ => ⟨by rw [he, hr], hw⟩

/-- the cell in which the library keeps how long its own search may be -/
def MaxLenAt (w : World) : Prop := ∃ m : Int, w.cell? ⟨2, 0, none⟩ = some (.int .i64 m)
theorem MaxLenAt.below {w w' : World} (h : MaxLenAt w) (hb : Below w.heap.size w w') : MaxLenAt w' := by
  obtain ⟨m, hm⟩ := h
  exact ⟨m, by rw [hb.cell (World.block_lt_of_cell? w _ hm)]; exact hm⟩
theorem MaxLenAt.drewN {w : World} (h : MaxLenAt w) (n : Nat) : MaxLenAt (w.drewN n) := h
theorem MaxLenAt.drew {w : World} (h : MaxLenAt w) : MaxLenAt w.drew := h
theorem MaxLenAt.grown {w w' : World} {b : Nat} (h : MaxLenAt w) (hg : w.grownBy w' (some b)) (hb : 2 < b) : MaxLenAt w' := by
  obtain ⟨m, hm⟩ := h
  refine ⟨m, ?_⟩
  have hlt := World.block_lt_of_cell? w _ hm
  unfold World.cell? at hm ⊢
  rw [hg.block _ hlt (by simp; omega)]; exact hm
theorem index_at (s sub : ByteArray) (w : World) (hs : s.size < 4294967281) (h : MaxLenAt w) :
    Calls Tryd.prog 47 #[.string s, .string sub] w fun e w' => e = .returned (.int .i64 (Lib.index s.data.toList sub.data.toList)) ∧ w' = w := by
  obtain ⟨m, hm⟩ := h
  exact Tryd.strings_Index s sub m w hs hm

/-- what the program's reader tells of blank -/
def Blanked (w : World) (b : Nat) (cs : Array Value) (T : TypeId) (s : ByteArray) (r : Nat × Bool) (e : Ending) (w' : World) : Prop :=
  (if r.2 = true then e = .returned (.tuple #[.int .i64 0, .bool true]) ∧ TextAt w' b cs T s r.1 else e = .returned (.tuple #[.int .i64 r.1, .bool false])) ∧ w.grownBy w' (some b)
theorem blanked_yes {w w' : World} {b : Nat} {cs : Array Value} {T : TypeId} {s : ByteArray} {r : Nat × Bool} {k : Nat} (hr : r = (k, true)) (h : TextAt w' b cs T s k) (hg : w.grownBy w' (some b)) :
    Blanked w b cs T s r (.returned (.tuple #[.int .i64 0, .bool true])) w' := by subst hr; exact ⟨by simp [h], hg⟩
theorem blanked_no {w w' : World} {b : Nat} {cs : Array Value} {T : TypeId} {s : ByteArray} {r : Nat × Bool} {k : Nat} (hr : r = (k, false)) (hg : w.grownBy w' (some b)) :
    Blanked w b cs T s r (.returned (.tuple #[.int .i64 k, .bool false])) w' := by subst hr; exact ⟨by simp, hg⟩

theorem indexByte_is (o : Int) (s : ByteArray) (k : Nat) (w : World) (ho : Lib.indexByte (sfx s k) 10 = o) :
    Calls Tryd.prog 46 #[.string (s.extract k s.size), .int .u8 10] w fun e w' => e = .returned (.int .i64 o) ∧ w' = w :=
  (Tryd.strings_IndexByte _ 10 w).mono fun _ _ ⟨he, hw⟩ => ⟨by rw [he, sfx_extract, ← ho]; rfl, hw⟩
theorem index_is (o : Int) (s : ByteArray) (k : Nat) (w : World) (hs : s.size ≤ 1048576) (hm : MaxLenAt w) (ho : Lib.index (sfx s k) [42, 47] = o) :
    Calls Tryd.prog 47 #[.string (s.extract k s.size), .string ⟨#[42, 47]⟩] w fun e w' => e = .returned (.int .i64 o) ∧ w' = w :=
  (index_at _ _ w (by rw [ByteArray.size_extract]; omega) hm).mono fun _ _ ⟨he, hw⟩ => ⟨by rw [he, sfx_extract, ← ho], hw⟩
theorem quiet_sum {P : Program} {f : FuncId} {args : Array Value} {w : World} {m a : Nat} {v : Value} (h : Calls P f args (w.drewN (m + a)) fun e w' => e = .returned v ∧ w' = w.drewN (m + a)) :
    Calls P f args (w.drewN (m + a)) fun e w' => e = .returned v ∧ ∃ n, w' = w.drewN (m + n) := h.mono fun _ _ ⟨he, hw⟩ => ⟨he, a, hw⟩
theorem quiet_sum2 {P : Program} {f : FuncId} {args : Array Value} {w : World} {m a : Nat} {v : Value} (h : Calls P f args (w.drewN (m + a)) fun e w' => e = .returned v ∧ ∃ n, w' = (w.drewN (m + a)).drewN n) :
    Calls P f args (w.drewN (m + a)) fun e w' => e = .returned v ∧ ∃ n, w' = w.drewN (m + n) := h.mono fun _ _ ⟨he, n, hw⟩ => ⟨he, a + n, by rw [hw, World.drewN_drewN, Nat.add_assoc]⟩
set_option maxHeartbeats 4000000 in
set_option maxRecDepth 100000 in
theorem blank_ok (b k : Nat) (cs : Array Value) (T : TypeId) (s : ByteArray) (w : World) (h : TextAt w b cs T s k) (hk : k ≤ s.size) (hs : s.size ≤ 1048576) (hm : MaxLenAt w) (hg : 2 < b) :
    Calls Tryd.prog 24 #[.pointer (some ⟨b, 0, none⟩)] w (Blanked w b cs T s (blankAt s k)) := by
  have H := Lib.hid h
  have HM := Lib.hid hm
  clear h hm
  obtain ⟨r, er⟩ : ∃ r, r = blankAt s k := ⟨_, rfl⟩
  rw [← er]
  have ER := Lib.hid er
  clear er
  go_enter Tryd.func24, Tryd.ntmps24
  go_wp2
  go_step3
  go_wp2
  go_step3
  go_wp2
  go_loopw [10] (fun _ wr => ∃ j : Nat, j ≤ s.size ∧ Hid (r = blankAt s j) ∧ TextAt wr b cs T s j ∧ w.grownBy wr (some b)) (fun _ wr => s.size - (intOf ((wr.cell? ⟨b, 1, none⟩).getD undef)).toNat)
  case atStart => exact ⟨k, hk, ER, H.out, grown_refl _ _⟩
  case round =>
    obtain ⟨j, hj, hr, hT, hgr⟩ := hrel
    have c0 := hT.c0
    have c1 := hT.c1
    have f1 := hT.f1 1
    have HT := Lib.hid hT
    have HG := Lib.hid hgr
    have C1 := Lib.hid c1
    clear hT hgr
    by_cases hlt : j < s.size
    · have hM := Lib.hid (show decide (j < s.size) = true by simpa using hlt)
      rcases hS : spB s[j] with _ | _
      · have hS1 := Lib.hid (spB_no hS)
        rcases hP : Lib.hasPrefix (sfx s j) [47, 47] with _ | _
        · rcases hQ : Lib.hasPrefix (sfx s j) [47, 42] with _ | _
          · have hfin := Lib.hid (hr.out.trans (blankAt_stop (gap_none hlt hS hP hQ)))
            have HP := Lib.hid hP
            have HQ := Lib.hid hQ
            clear hP hQ hS
            go_wp2_with (go_at_call 25; refine (more_is true _ _ _ _ _ _ HT.out hM.out).mono ?_; rintro e w1 ⟨rfl, n, rfl⟩)
            go_quiet (fail)
            go_wp2_with (go_at_call 45; first
              | (refine (begins_is false _ _ _ _ _ _ _ HT.out.drew hj HP.out).mono ?_; rintro e w1 ⟨rfl, n1, rfl⟩)
              | (refine (begins_is false _ _ _ _ _ _ _ HT.out.drew hj HQ.out).mono ?_; rintro e w1 ⟨rfl, n2, rfl⟩))
            all_goals first
              | (exfalso; have := hS1.out; simp at *; omega)
              | (try rw [Exit.noGoto_ret]
                 go_ret2
                 exact blanked_yes hfin.out HT.out.drew (grown_drewN HG.out _))
          · have h2s := prefix_two hQ
            have HMr := Lib.hid (HM.out.grown HG.out hg)
            rcases int_cases (Lib.index_ge (sfx s (j + 2)) [42, 47]) with ho | ⟨o, ho⟩
            · have hfin := Lib.hid (hr.out.trans (blankAt_bad (by rw [gap_star hlt hS hP hQ, ho]; rfl)))
              have HO := Lib.hid ho
              have HP := Lib.hid hP
              have HQ := Lib.hid hQ
              clear hP hQ hS ho
              go_wp2_with (go_at_call 25; refine (more_is true _ _ _ _ _ _ HT.out hM.out).mono ?_; rintro e w1 ⟨rfl, n, rfl⟩)
              go_quiet (fail)
              go_wp2_with (go_at_call 45; first
                | (refine (begins_is false _ _ _ _ _ _ _ HT.out.drew hj HP.out).mono ?_; rintro e w1 ⟨rfl, n1, rfl⟩)
                | (refine (begins_is true _ _ _ _ _ _ _ HT.out.drew hj HQ.out).mono ?_; rintro e w1 ⟨rfl, n2, rfl⟩))
              all_goals first
                | (exfalso; have := hS1.out; simp at *; omega)
                | (go_quiet ((go_at_call 47; exact quiet_sum (index_is _ _ _ _ hs (HMr.out.drewN _) HO.out)))
                   go_wp2
                   try rw [Exit.noGoto_ret]
                   go_ret2
                   exact blanked_no hfin.out (grown_drewN HG.out _))
            · have hgap : gap (sfx s j) = .skip (o + 4) := by rw [gap_star hlt hS hP hQ, ho, if_neg (by omega)]; rfl
              have hle := (gap_le hgap).2
              rw [sfx_length] at hle
              have hfin := Lib.hid (hr.out.trans (blankAt_skip hgap))
              have HO := Lib.hid ho
              have HP := Lib.hid hP
              have HQ := Lib.hid hQ
              clear hP hQ hS ho hgap
              go_wp2_with (go_at_call 25; refine (more_is true _ _ _ _ _ _ HT.out hM.out).mono ?_; rintro e w1 ⟨rfl, n, rfl⟩)
              go_quiet (fail)
              go_wp2_with (go_at_call 45; first
                | (refine (begins_is false _ _ _ _ _ _ _ HT.out.drew hj HP.out).mono ?_; rintro e w1 ⟨rfl, n1, rfl⟩)
                | (refine (begins_is true _ _ _ _ _ _ _ HT.out.drew hj HQ.out).mono ?_; rintro e w1 ⟨rfl, n2, rfl⟩))
              all_goals first
                | (exfalso; have := hS1.out; simp at *; omega)
                | (go_quiet ((go_at_call 47; exact quiet_sum (index_is _ _ _ _ hs (HMr.out.drewN _) HO.out)))
                   go_wp2
                   go_roundw
                   case rel => exact ⟨j + (o + 4), by omega, hfin.out, HT.out.drew.next (j + (o + 4)), grown_set (grown_drewN HG.out _) _ rfl _⟩
                   case measure =>
                     have e1 := fun m => (HT.out.drew (n := m)).next (j + (o + 4)) |>.c1
                     rw [show ((j + (o + 4) : Nat) : Int) = (j : Int) + ((o : Int) + 4) from by omega] at e1
                     rw [C1.out, e1]
                     simp [intOf]; omega)
        · have h2s := prefix_two hP
          rcases int_cases (Lib.indexByte_ge (sfx s j) 10) with ho | ⟨o, ho⟩
          · have hgap : gap (sfx s j) = .skip (s.size - j) := by rw [gap_line hlt hS hP, ho]; rfl
            have hfin := Lib.hid (hr.out.trans ((blankAt_skip hgap).trans (blankAt_stop (gap_end (s := s) (k := j + (s.size - j)) (by omega)))))
            rw [show j + (s.size - j) = s.size by omega] at hfin
            have HO := Lib.hid ho
            have HP := Lib.hid hP
            clear hP hS ho hgap
            go_wp2_with (go_at_call 25; refine (more_is true _ _ _ _ _ _ HT.out hM.out).mono ?_; rintro e w1 ⟨rfl, n, rfl⟩)
            go_quiet (fail)
            go_wp2_with (go_at_call 45; refine (begins_is true _ _ _ _ _ _ _ HT.out.drew hj HP.out).mono ?_; rintro e w1 ⟨rfl, n1, rfl⟩)
            all_goals first
              | (exfalso; have := hS1.out; simp at *; omega)
              | (go_quiet ((go_at_call 46; exact quiet_sum (indexByte_is _ _ _ _ HO.out)))
                 go_wp2
                 try rw [Exit.noGoto_ret]
                 go_ret2
                 exact blanked_yes hfin.out (HT.out.drew.next s.size) (grown_set (grown_drewN HG.out _) _ rfl _))
          · have hgap : gap (sfx s j) = .skip (o + 1) := by rw [gap_line hlt hS hP, ho, if_neg (by omega)]; rfl
            have hle := (gap_le hgap).2
            rw [sfx_length] at hle
            have hfin := Lib.hid (hr.out.trans (blankAt_skip hgap))
            have HO := Lib.hid ho
            have HP := Lib.hid hP
            clear hP hS ho hgap
            go_wp2_with (go_at_call 25; refine (more_is true _ _ _ _ _ _ HT.out hM.out).mono ?_; rintro e w1 ⟨rfl, n, rfl⟩)
            go_quiet (fail)
            go_wp2_with (go_at_call 45; refine (begins_is true _ _ _ _ _ _ _ HT.out.drew hj HP.out).mono ?_; rintro e w1 ⟨rfl, n1, rfl⟩)
            all_goals first
              | (exfalso; have := hS1.out; simp at *; omega)
              | (go_quiet ((go_at_call 46; exact quiet_sum (indexByte_is _ _ _ _ HO.out)))
                 go_wp2
                 go_roundw
                 case rel => exact ⟨j + (o + 1), by omega, hfin.out, HT.out.drew.next (j + (o + 1)), grown_set (grown_drewN HG.out _) _ rfl _⟩
                 case measure =>
                   have e1 := fun m => (HT.out.drew (n := m)).next (j + (o + 1)) |>.c1
                   rw [show ((j + (o + 1) : Nat) : Int) = (j : Int) + ((o : Int) + 1) from by omega] at e1
                   rw [C1.out, e1]
                   simp [intOf]; omega)
      · have hS' := Lib.hid (of_decide_eq_true hS)
        have hfin := Lib.hid (hr.out.trans (blankAt_skip (gap_space hlt hS)))
        clear hS
        go_wp2_with (go_at_call 25; refine (more_is true _ _ _ _ _ _ HT.out hM.out).mono ?_; rintro e w1 ⟨rfl, n, rfl⟩)
        go_quiet (fail)
        go_wp2_with fail
        all_goals first
          | (exfalso; have := hS'.out; simp at *; omega)
          | (go_roundw
             case rel => exact ⟨j + 1, by omega, hfin.out, HT.out.drew.next (j + 1), grown_set (grown_drewN HG.out _) _ rfl _⟩
             case measure =>
               have e1 := fun m => (HT.out.drew (n := m)).next (j + 1) |>.c1
               rw [show ((j + 1 : Nat) : Int) = (j : Int) + 1 from by omega] at e1
               rw [C1.out, e1]
               simp [intOf]; omega)
    · have hM := Lib.hid (show decide (j < s.size) = false by simpa using hlt)
      have hfin := Lib.hid (hr.out.trans (blankAt_stop (gap_end (s := s) (k := j) (by omega))))
      go_wp2_with (go_at_call 25; refine (more_is false _ _ _ _ _ _ HT.out hM.out).mono ?_; rintro e w1 ⟨rfl, n, rfl⟩)
      try rw [Exit.noGoto_ret]
      go_ret2
      exact blanked_yes hfin.out HT.out.drew (grown_drewN HG.out _)

end Go.Proofs.YtncojfcdkigmiaaDoor
