/- What a right function of three-address code reads, writes and leads to. Plain: nothing of the program. -/
import Derived.Test.YtlomdlblohnfmaaDoorIr
namespace Go.Proofs.YtlomdlblohnfmaaDoor

/-- bounds that let anything be -/
def anyI (o : IrO) : Bool := opI 4096 4611686018427387904 4611686018427387904 o
theorem opI_parts {regs slots strings : Int} {o : IrO} (h : opI regs slots strings o = true) : ∃ r, ruleI o.kind = some r ∧ regI regs o.d r.d r.maybe = true ∧ regI regs o.a r.a false = true ∧ regI regs o.b r.b false = true ∧ immI o.kind o.imm = true ∧ textI o.kind o.text = true ∧ (r.args || decide (o.args = [])) = true ∧ o.args.all (fun x => regI regs x true false) = true ∧
      (if o.kind = 21 then decide (o.imm < slots) else if o.kind = 23 then decide (o.imm < strings) else if o.kind = 29 then
        (match builtI o.text with
        | none => false
        | some (n, ans) => decide (o.args.length = n) && (ans || decide (o.d = -1))) else true) = true := by
  unfold opI at h
  cases hr : ruleI o.kind with
  | none => rw [hr] at h; cases h
  | some r =>
    rw [hr] at h
    simp only [Bool.and_eq_true] at h
    obtain ⟨⟨⟨⟨⟨⟨⟨h1, h2⟩, h3⟩, h4⟩, h5⟩, h6⟩, h7⟩, h8⟩ := h
    exact ⟨r, rfl, h1, h2, h3, h4, h5, by simpa using h6, h7, h8⟩
theorem opI_more {regs slots strings regs' slots' strings' : Int} {o : IrO} (hr : regs ≤ regs') (hs : slots ≤ slots') (ht : strings ≤ strings') (h : opI regs slots strings o = true) : opI regs' slots' strings' o = true := by
  obtain ⟨r, h0, h1, h2, h3, h4, h5, h6, h7, h8⟩ := opI_parts h
  unfold opI
  rw [h0]
  simp only [Bool.and_eq_true]
  refine ⟨⟨⟨⟨⟨⟨⟨regI_more hr h1, regI_more hr h2⟩, regI_more hr h3⟩, h4⟩, h5⟩, by simpa using h6⟩, ?_⟩, ?_⟩
  · rw [List.all_eq_true] at h7 ⊢
    exact fun x hx => regI_more hr (h7 x hx)
  · split at h8
    · rw [if_pos (by assumption)]
      simp only [decide_eq_true_eq] at h8 ⊢
      omega
    · rw [if_neg (by assumption)]
      split at h8
      · rw [if_pos (by assumption)]
        simp only [decide_eq_true_eq] at h8 ⊢
        omega
      · rw [if_neg (by assumption)]
        exact h8
theorem funcI_parts {f : IrF} {strings : Int} (h : funcI f strings = true) : headI f = true ∧ f.slots.all slotI = true ∧ bodyI f strings = true ∧ apartI f.blocks = true := by
  unfold funcI at h
  simp only [Bool.and_eq_true] at h
  exact ⟨h.1.1.1, h.1.1.2, h.1.2, h.2⟩
theorem headI_parts {f : IrF} (h : headI f = true) : isNameB f.name = true ∧ 0 ≤ f.params ∧ f.params ≤ 8 ∧ f.params ≤ f.regs ∧ f.regs ≤ 4096 ∧ f.slots.length ≤ 256 ∧ 1 ≤ f.blocks.length ∧ f.blocks.length ≤ 4096 := by
  unfold headI at h
  simp only [Bool.and_eq_true, decide_eq_true_eq] at h
  exact ⟨h.1, h.2⟩
theorem bodyI_exit {f : IrF} {strings : Int} (h : bodyI f strings = true) {b : IrB} (hb : b ∈ f.blocks) : exitI f.regs f.blocks.length b.exit = true := by
  unfold bodyI at h
  simp only [Bool.and_eq_true, List.all_eq_true] at h
  exact (h.2 b hb).1
theorem regI_true {regs r : Int} (h : regI regs r true false = true) : 0 ≤ r ∧ r < regs := by
  unfold regI at h
  split at h
  · simp at h
  · simpa using h
theorem exitI_there {regs blocks : Int} {x : IrX} (h : exitI regs blocks x = true) : (∀ n ∈ (exitsI x).1, 0 ≤ n ∧ n < regs) ∧ ∀ n ∈ (exitsI x).2, 1 ≤ n ∧ n < blocks := by
  unfold exitI at h
  unfold exitsI
  split at h
  · rw [if_pos (by assumption)]
    simp only [Bool.and_eq_true, toI, decide_eq_true_eq] at h
    exact ⟨fun n hn => by (cases hn), fun n hn => by rw [List.mem_singleton.1 hn]; exact h.1.2⟩
  · rw [if_neg (by assumption)]
    split at h
    · rw [if_pos (.inl (by assumption))]
      simp only [Bool.and_eq_true, toI, decide_eq_true_eq] at h
      refine ⟨fun n hn => by rw [List.mem_singleton.1 hn]; exact regI_true h.1.1.1, fun n hn => ?_⟩
      rcases List.mem_cons.1 hn with rfl | hn
      · exact h.1.2
      · rw [List.mem_singleton.1 hn]; exact h.2
    · split at h
      · rename_i h1 h2 h3
        rw [if_neg (by omega)]
        simp only [Bool.and_eq_true, decide_eq_true_eq] at h
        split
        · rename_i h4
          refine ⟨fun n hn => ?_, fun n hn => by cases hn⟩
          rw [List.mem_singleton.1 hn]
          rcases regI_yes h.1.1.1 with h' | h' <;> omega
        · exact ⟨fun n hn => by (cases hn), fun n hn => by (cases hn)⟩
      · split at h
        · rename_i h1 h2 h3 h4
          rw [if_pos (.inr h4)]
          simp only [Bool.and_eq_true, toI, decide_eq_true_eq] at h
          obtain ⟨⟨⟨⟨g1, g2⟩, g3⟩, g4⟩, g5⟩ := h
          refine ⟨fun n hn => by rw [List.mem_singleton.1 hn]; exact regI_true g1, fun n hn => ?_⟩
          rcases List.mem_cons.1 hn with rfl | hn
          · exact g3
          · rw [List.mem_singleton.1 hn]; exact g4
        · cases h
theorem there_exit {f : IrF} (h : funcI f 4611686018427387904 = true) {b : IrB} (hb : b ∈ f.blocks) : (∀ n ∈ (exitsI b.exit).1, 0 ≤ n ∧ n < f.regs) ∧ ∀ n ∈ (exitsI b.exit).2, 1 ≤ n ∧ n < f.blocks.length := by
  obtain ⟨_, _, hbd, _⟩ := funcI_parts h
  exact exitI_there (bodyI_exit hbd hb)
end Go.Proofs.YtlomdlblohnfmaaDoor

