/- A program without its last function; a function with one block and one register more. Plain: nothing of the program. · The law IrLess, walked. -/
import Derived.Test.YtlomdlblohnfmaaDoorCheckM
import Derived.Test.YtlomdlblohnfmaaDoorReachP
import Derived.Test.YtlomdlblohnfmaaDoorSmallM
import Derived.Test.YtlomdlblohnfmaaDoorIrReach2
import Derived.Test.YtlomdlblohnfmaaDoorIrCopyI
namespace Go.Proofs.YtlomdlblohnfmaaDoor

def moreF (f : IrF) : IrF := ⟨f.name, f.params, f.regs + 1, f.slots, f.blocks ++ [⟨[], ⟨3, f.regs, -1, 0, 0⟩⟩]⟩
theorem exitI_more {regs regs' blocks blocks' : Int} {x : IrX} (hr : regs ≤ regs') (hb : blocks ≤ blocks') (h : exitI regs blocks x = true) : exitI regs' blocks' x = true := by
  have ht : ∀ n, toI blocks n = true → toI blocks' n = true := fun n hn => by
    unfold toI at hn ⊢
    simp only [decide_eq_true_eq] at hn ⊢
    omega
  unfold exitI at h ⊢
  split at h
  · rw [if_pos (by assumption)]
    simp only [Bool.and_eq_true] at h ⊢
    exact ⟨⟨h.1.1, ht _ h.1.2⟩, h.2⟩
  rw [if_neg (by assumption)]
  split at h
  · rw [if_pos (by assumption)]
    simp only [Bool.and_eq_true] at h ⊢
    exact ⟨⟨⟨regI_more hr h.1.1.1, h.1.1.2⟩, ht _ h.1.2⟩, ht _ h.2⟩
  rw [if_neg (by assumption)]
  split at h
  · rw [if_pos (by assumption)]
    simp only [Bool.and_eq_true] at h ⊢
    exact ⟨⟨⟨regI_more hr h.1.1.1, h.1.1.2⟩, h.1.2⟩, h.2⟩
  rw [if_neg (by assumption)]
  split at h
  · rw [if_pos (by assumption)]
    simp only [Bool.and_eq_true] at h ⊢
    exact ⟨⟨⟨⟨regI_more hr h.1.1.1.1, regI_more hr h.1.1.1.2⟩, ht _ h.1.1.2⟩, ht _ h.1.2⟩, h.2⟩
  · cases h
theorem exitsI_new (r : Int) : (exitsI ⟨3, r, -1, 0, 0⟩).2 = [] := by
  unfold exitsI
  rw [if_neg (show ¬ ((3 : Int) = 1) from by decide), if_neg (show ¬ ((3 : Int) = 2 ∨ (3 : Int) = 4) from by decide)]
  split <;> rfl
theorem more_right {f : IrF} {ns : Int} (h : funcI f ns = true) (hns : ns ≤ 4611686018427387904) (h1 : f.regs < 4096) (h2 : f.blocks.length < 4096) : funcI (moreF f) 4611686018427387904 = true := by
  obtain ⟨hh, hs, hb, ha⟩ := funcI_parts h
  obtain ⟨g0, g1, g2, g3, g4, g5, g6, g7⟩ := headI_parts hh
  have hl : (moreF f).blocks.length = f.blocks.length + 1 := by unfold moreF; simp
  unfold funcI
  simp only [Bool.and_eq_true]
  refine ⟨⟨⟨?_, hs⟩, ?_⟩, ?_⟩
  · unfold headI
    rw [hl]
    simp only [Bool.and_eq_true, decide_eq_true_eq]
    exact ⟨g0, g1, g2, show f.params ≤ f.regs + 1 by omega, show f.regs + 1 ≤ 4096 by omega, g5, by omega, by omega⟩
  · have hb' := hb
    unfold bodyI at hb ⊢
    simp only [Bool.and_eq_true, decide_eq_true_eq, List.all_eq_true] at hb ⊢
    refine ⟨?_, fun b hm => ?_⟩
    · unfold moreF
      simpa using hb.1
    · rcases List.mem_append.1 hm with hm | hm
      · refine ⟨exitI_more (show f.regs ≤ f.regs + 1 by omega) (by rw [hl]; omega) (hb.2 b hm).1, fun o ho => ?_⟩
        exact opI_more (show f.regs ≤ f.regs + 1 by omega) (Int.le_refl _) hns ((hb.2 b hm).2 o ho)
      · rw [List.mem_singleton.1 hm]
        refine ⟨?_, fun o ho => by cases ho⟩
        unfold exitI
        rw [if_neg (show ¬ ((3 : Int) = 1) from by decide), if_neg (show ¬ ((3 : Int) = 2) from by decide), if_pos (show (3 : Int) = 3 from rfl)]
        simp only [Bool.and_eq_true, decide_eq_true_eq, and_true]
        unfold regI
        split
        · rfl
        · simp only [Bool.true_and, decide_eq_true_eq]
          exact ⟨by omega, show f.regs < f.regs + 1 by omega⟩
  · unfold apartI at ha ⊢
    rw [List.all_eq_true] at ha ⊢
    have hled : ∀ n, ledI (moreF f).blocks n = ledI f.blocks n := fun n => by
      unfold ledI moreF
      rw [List.flatMap_append]
      simp [exitsI_new]
    intro b hm
    rw [hled]
    rcases List.mem_append.1 hm with hm | hm
    · exact ha b hm
    · rw [List.mem_singleton.1 hm]; rfl
theorem more_unreached {f : IrF} {ns : Int} {S : List Bool} (h : funcI f ns = true) (hS : SeenOk (moreF f).blocks S) : (markedI S (moreF f).blocks.length).contains (((f.blocks.length : Nat) : Int)) = false := by
  obtain ⟨hh, _, hb, _⟩ := funcI_parts h
  obtain ⟨_, _, _, _, _, _, g6, _⟩ := headI_parts hh
  rw [← Bool.not_eq_true, List.contains_iff_mem]
  intro hm
  obtain ⟨j, hj, _, hs⟩ := markedI_mem hm
  have hj2 : j = f.blocks.length := by omega
  rcases hS.led j hs with h0 | ⟨b, hbm, hy⟩
  · omega
  · rcases List.mem_append.1 hbm with hbm | hbm
    · have := (exitI_there (bodyI_exit hb hbm)).2 _ hy
      omega
    · rw [List.mem_singleton.1 hbm, exitsI_new] at hy
      cases hy
theorem firstBad_inv {α : Type} {bad : Nat → α → Bool} : ∀ (L : List α) (s : Nat), firstBad bad s L = none → ∀ k (hk : k < L.length), bad (s + k) L[k] = false
  | [], _, _, k, hk => absurd hk (Nat.not_lt_zero _)
  | x :: r, s, h, k, hk => by
    unfold firstBad at h
    split at h
    · cases h
    · rename_i hx
      cases k with
      | zero => simpa using hx
      | succ k =>
        have := firstBad_inv r (s + 1) h k (by simpa using hk)
        rw [show s + (k + 1) = s + 1 + k by omega]
        simpa using this
theorem firstBad_none' {α : Type} {bad : Nat → α → Bool} {L : List α} (h : ∀ k (hk : k < L.length), bad k L[k] = false) : firstBad bad 0 L = none :=
  firstBad_none L 0 (fun k hk => by rw [Nat.zero_add]; exact h k hk)
theorem firstBad_all {α : Type} {bad : Nat → α → Bool} {L : List α} (h : firstBad bad 0 L = none) : ∀ k (hk : k < L.length), bad k L[k] = false := fun k hk => by
  have := firstBad_inv L 0 h k hk
  rwa [Nat.zero_add] at this
/-- what a right program is -/
structure Right (x : IrP) (fG fF : ByteArray → Int × Bool) : Prop where
  gs : x.globals.length ≤ 256
  ss : x.strings.length ≤ 4096
  fs : x.funcs.length ≤ 128
  gok : ∀ k (hk : k < x.globals.length), globalOk fG fF x.strings.length (k : Nat) x.globals[k] = true
  sok : ∀ k (hk : k < x.strings.length), x.strings[k].size ≤ 4096
  fok : ∀ k (hk : k < x.funcs.length), badFn x fG fF k x.funcs[k] = false
theorem right_of {x : IrP} (h : checkP x = (0, 0)) : Right x (firstI (x.globals.map IrG.name)) (firstI (x.funcs.map IrF.name)) := by
  unfold checkP at h
  split at h
  · cases h
  rename_i hl
  dsimp only at h
  split at h
  · have := congrArg Prod.snd h
    cases this
  rename_i hg
  split at h
  · have := congrArg Prod.snd h
    cases this
  rename_i hs
  split at h
  · have := congrArg Prod.snd h
    cases this
  rename_i hf
  refine ⟨by omega, by omega, by omega, fun k hk => ?_, fun k hk => ?_, fun k hk => firstBad_all hf k hk⟩
  · have := firstBad_all hg k hk
    simpa using this
  · have := firstBad_all hs k hk
    simpa using this
theorem of_right {x : IrP} (h : Right x (firstI (x.globals.map IrG.name)) (firstI (x.funcs.map IrF.name))) : checkP x = (0, 0) := by
  refine (checkP_func (by have := h.gs; have := h.ss; have := h.fs; omega) (firstBad_none' fun k hk => by rw [h.gok k hk]; rfl) (firstBad_none' fun k hk => by have := h.sok k hk; simpa using this)).2 (firstBad_none' h.fok)
theorem firstI_take {L : List ByteArray} {n : Nat} (hn : n < L.length) (hl : L.length = n + 1) {s : ByteArray} (hs : s ≠ L[n]) : firstI (L.take n) s = firstI L s := by
  have he : L = L.take n ++ [L[n]] := by
    have := List.take_succ_eq_append_getElem hn
    rw [List.take_of_length_le (by omega)] at this
    exact this
  unfold firstI
  conv => rhs; rw [he]
  rw [List.findIdx?_append]
  have h0 : [L[n]].findIdx? (fun t => decide (t = s)) = none := by
    simp [List.findIdx?_cons]
    exact fun h => hs h.symm
  rw [h0]
  cases (L.take n).findIdx? (fun t => decide (t = s)) <;> rfl
theorem wordsOk_same {fG fF fF' : ByteArray → Int × Bool} {ns : Int} {bytes : List UInt8} {nm : ByteArray} (hf : ∀ s, s ≠ nm → fF' s = fF s) : ∀ (L : List IrW) (e : Int), (∀ w ∈ L, ¬ (w.kind = 3 ∧ w.text = nm)) → wordsOk fG fF' ns bytes e L = wordsOk fG fF ns bytes e L
  | [], _, _ => rfl
  | x :: r, e, h => by
    have hx := h x List.mem_cons_self
    have hw : wordOk fG fF' ns x = wordOk fG fF ns x := by
      unfold wordOk
      split
      · rfl
      split
      · rename_i h3
        rw [hf _ (fun e => hx ⟨h3, e⟩)]
      · rfl
    unfold wordsOk
    rw [hw, wordsOk_same hf r _ (fun w hw => h w (List.mem_cons_of_mem _ hw))]
theorem namedI_same {fG fF fF' : ByteArray → Int × Bool} {nm : ByteArray} {f : IrF} (hf : ∀ s, s ≠ nm → fF' s = fF s) (h : ∀ b ∈ f.blocks, ∀ o ∈ b.ops, ¬ (o.kind = 24 ∧ o.text = nm)) (hn : namedI fG fF f = true) : namedI fG fF' f = true := by
  unfold namedI at hn ⊢
  rw [List.all_eq_true] at hn ⊢
  intro b hb
  have h1 := hn b hb
  rw [List.all_eq_true] at h1 ⊢
  intro o ho
  have h2 := h1 o ho
  have h3 : badName fG fF' o = badName fG fF o := by
    unfold badName
    by_cases hk : o.kind = 24
    · rw [hf _ (fun e => h b hb o ho ⟨hk, e⟩)]
    · rw [decide_eq_false hk, Bool.false_and, Bool.false_and]
  rw [h3]; exact h2
theorem less_check {x : IrP} (h : checkP x = (0, 0)) {n : Nat} (hn : n < x.funcs.length) (hl : x.funcs.length = n + 1) (hg : ∀ g ∈ x.globals, ∀ w ∈ g.words, ¬ (w.kind = 3 ∧ w.text = x.funcs[n].name)) (ho : ∀ f ∈ x.funcs.take n, ∀ b ∈ f.blocks, ∀ o ∈ b.ops, ¬ (o.kind = 24 ∧ o.text = x.funcs[n].name)) :
    checkP ⟨x.globals, x.strings, x.funcs.take n⟩ = (0, 0) := by
  have hR := right_of h
  have hname : ∀ k (hk : k < x.funcs.length), (firstI (x.funcs.map IrF.name) x.funcs[k].name).1 = (k : Nat) ∧ funcI x.funcs[k] x.strings.length = true ∧ namedI (firstI (x.globals.map IrG.name)) (firstI (x.funcs.map IrF.name)) x.funcs[k] = true := fun k hk => by
    have := hR.fok k hk
    unfold badFn at this
    simp only [Bool.or_eq_false_iff, Bool.not_eq_false', decide_eq_false_iff_not, Decidable.not_not] at this
    exact ⟨this.1.2, this.1.1, this.2⟩
  have hfF : ∀ s, s ≠ x.funcs[n].name → firstI ((x.funcs.take n).map IrF.name) s = firstI (x.funcs.map IrF.name) s := fun s hs => by
    rw [List.map_take]
    exact firstI_take (by rw [List.length_map]; exact hn) (by rw [List.length_map]; exact hl) (by rw [List.getElem_map]; exact hs)
  refine of_right ⟨hR.gs, hR.ss, by simp; have := hR.fs; omega, fun k hk => ?_, hR.sok, fun k hk => ?_⟩
  · have h1 := hR.gok k hk
    unfold globalOk at h1 ⊢
    rw [wordsOk_same hfF _ _ (hg _ (List.getElem_mem hk))]
    exact h1
  · have hkn : k < n := by
      have h0 : k < (x.funcs.take n).length := hk
      rw [List.length_take] at h0
      omega
    have hk2 : k < x.funcs.length := by omega
    have he : (x.funcs.take n)[k] = x.funcs[k] := List.getElem_take
    obtain ⟨h1, h2, h3⟩ := hname k hk2
    have hne : x.funcs[k].name ≠ x.funcs[n].name := fun e => by
      have h4 := (hname n hn).1
      rw [← e, h1] at h4
      omega
    show badFn ⟨x.globals, x.strings, x.funcs.take n⟩ _ _ k (x.funcs.take n)[k] = false
    rw [he]
    unfold badFn
    rw [hfF _ hne, h1, h2, namedI_same hfF (by rw [← he]; exact ho _ (List.getElem_mem hk)) h3]
    simp
end Go.Proofs.YtlomdlblohnfmaaDoor
namespace Go.Proofs.YtlomdlblohnfmaaDoor
open Go.RowKit

theorem sum_mem {L : List Nat} {k : Nat} (h : k ∈ L) : k ≤ L.sum := by
  induction L with
  | nil => cases h
  | cons a r ih =>
    rw [List.sum_cons]
    rcases List.mem_cons.1 h with rfl | h
    · omega
    · have := ih h; omega
theorem func_lens {f : IrF} {ns : Int} (h : funcI f ns = true) : f.blocks.length ≤ 4096 ∧ ∀ b ∈ f.blocks, b.ops.length ≤ 4096 := by
  obtain ⟨hh, _, hb, _⟩ := funcI_parts h
  obtain ⟨_, _, _, _, _, _, _, g7⟩ := headI_parts hh
  unfold bodyI at hb
  simp only [Bool.and_eq_true, decide_eq_true_eq] at hb
  exact ⟨g7, fun b hm => Nat.le_trans (sum_mem (List.mem_map_of_mem (f := fun b : IrB => b.ops.length) hm)) hb.1⟩
theorem right_func {x : IrP} {fG fF : ByteArray → Int × Bool} (h : Right x fG fF) {f : IrF} (hf : f ∈ x.funcs) : funcI f x.strings.length = true := by
  obtain ⟨k, hk, rfl⟩ := List.getElem_of_mem hf
  have := h.fok k hk
  unfold badFn at this
  simp only [Bool.or_eq_false_iff, Bool.not_eq_false'] at this
  exact this.1.1
theorem ir_cells {w : World} {b : Nat} {a0 a1 a2 : Value} {T : TypeId} (h : w.heap[b]? = some (.cells #[a0, a1, a2] T (0, 0))) : ∀ w', Below w.heap.size w w' → w'.cell? ⟨b, 0, none⟩ = some a0 ∧ w'.cell? ⟨b, 1, none⟩ = some a1 ∧ w'.cell? ⟨b, 2, none⟩ = some a2 := fun _ hb => (three18 ((hb.block b (lt_of_heap h)).trans h)).1
set_option maxRecDepth 100000 in
set_option maxHeartbeats 8000000 in
theorem less_wrong (x : IrP) (gv sv fv : Value) (w : World) (hE : IE w) (hk : 0 < w.heap.size) (hP : IsPr w.heap.size w x gv sv fv) (h : checkP x ≠ (0, 0)) :
    Calls Tryd.prog 3 #[.agg #[gv, sv, fv]] w fun e w' => e = .returned (.bool true) ∧ Below w.heap.size w w' := by
  have hwk := fun w1 (hb1 : Below w.heap.size w w1) => works18_ok w1 (hE.below hb1) (Nat.lt_of_lt_of_le hk hb1.size)
  have hck := fun w1 (hb1 : Below w.heap.size w w1) => check_ok x gv sv fv w1 (hE.keys.below hb1) ((hP.below hb1 (Nat.le_refl _)).mono hb1.size)
  obtain ⟨⟨ag, cg, Qg, rfl, _⟩, ⟨as1, cs, rfl, _⟩, ⟨af, cf, Qf, rfl, _⟩⟩ := hP
  have HWk := Lib.hid hwk
  have HBa := Lib.hid ((Below.refl w.heap.size w).alloc (Nat.le_refl _) (.cells #[.slice ag x.globals.length cg, .slice as1 x.strings.length cs, .slice af x.funcs.length cf] 26))
  have HXx := Lib.hid (ir_cells (heap_alloc_new w (.cells #[.slice ag x.globals.length cg, .slice as1 x.strings.length cs, .slice af x.funcs.length cf] 26)))
  obtain ⟨i, hi⟩ := check_code x h
  rcases hi with hi | hi
  all_goals
    rw [hi] at hck
    dsimp only at hck
    have HCk := Lib.hid hck
    clear hE hk hwk hck h hi
    go_enter Tryd.func3, Tryd.ntmps3
    go_upto_region 1 with fail
    have HBs := Lib.hid HBa.out.size
    generalize World.alloc w _ = wa at *
    go_upto_region 3 with (go_at_call 5; (with_reducible refine (HWk.out _ HBa.out).mono ?_); rintro e w1 ⟨rfl, hb1⟩; have HB1 := Lib.hid hb1; clear hb1)
    obtain ⟨d0, d1, d2⟩ := HXx.out _ HB1.out
    have HW1 := Lib.hid (HBa.out.trans (HB1.out.mono HBs.out))
    go_wp2_with (go_at_call 6; (with_reducible refine (HCk.out _ HW1.out).mono ?_); rintro e w2 ⟨rfl, hb2⟩; have HW2 := Lib.hid (HW1.out.trans (hb2.mono HW1.out.size)); clear hb2)
    go_ret
    exact ⟨rfl, HW2.out⟩
set_option maxRecDepth 100000 in
set_option maxHeartbeats 8000000 in
theorem less_none (x : IrP) (gv sv fv : Value) (w : World) (hE : IE w) (hk : 0 < w.heap.size) (hP : IsPr w.heap.size w x gv sv fv) (h : checkP x = (0, 0)) (h0 : x.funcs = []) :
    Calls Tryd.prog 3 #[.agg #[gv, sv, fv]] w fun e w' => e = .returned (.bool true) ∧ Below w.heap.size w w' := by
  have hwk := fun w1 (hb1 : Below w.heap.size w w1) => works18_ok w1 (hE.below hb1) (Nat.lt_of_lt_of_le hk hb1.size)
  have hck := fun w1 (hb1 : Below w.heap.size w w1) => check_ok x gv sv fv w1 (hE.keys.below hb1) ((hP.below hb1 (Nat.le_refl _)).mono hb1.size)
  rw [h] at hck
  dsimp only at hck
  obtain ⟨⟨ag, cg, Qg, rfl, _⟩, ⟨as1, cs, rfl, _⟩, ⟨af, cf, Qf, rfl, _⟩⟩ := hP
  have HWk := Lib.hid hwk
  have HCk := Lib.hid hck
  have HBa := Lib.hid ((Below.refl w.heap.size w).alloc (Nat.le_refl _) (.cells #[.slice ag x.globals.length cg, .slice as1 x.strings.length cs, .slice af x.funcs.length cf] 26))
  have HXx := Lib.hid (ir_cells (heap_alloc_new w (.cells #[.slice ag x.globals.length cg, .slice as1 x.strings.length cs, .slice af x.funcs.length cf] 26)))
  have t0 : ((x.funcs.length : Int) == 0) = true := by rw [h0]; rfl
  clear hE hk hwk hck h h0
  go_enter Tryd.func3, Tryd.ntmps3
  go_upto_region 1 with fail
  have HBs := Lib.hid HBa.out.size
  generalize World.alloc w _ = wa at *
  go_upto_region 3 with (go_at_call 5; (with_reducible refine (HWk.out _ HBa.out).mono ?_); rintro e w1 ⟨rfl, hb1⟩; have HB1 := Lib.hid hb1; clear hb1)
  obtain ⟨d0, d1, d2⟩ := HXx.out _ HB1.out
  have HW1 := Lib.hid (HBa.out.trans (HB1.out.mono HBs.out))
  go_wp2_with (go_at_call 6; (with_reducible refine (HCk.out _ HW1.out).mono ?_); rintro e w2 ⟨rfl, hb2⟩; have HW2 := Lib.hid (HW1.out.trans (hb2.mono HW1.out.size)); clear d0 d1 d2; obtain ⟨d0, d1, d2⟩ := HXx.out _ (HB1.out.trans (hb2.mono HB1.out.size)); clear hb2)
  go_ret
  exact ⟨rfl, HW2.out⟩
end Go.Proofs.YtlomdlblohnfmaaDoor
