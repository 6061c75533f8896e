/- What is folded means the same. Plain: nothing of the program. · What is folded means the same; folded once more it is the same. Plain: nothing of the program. -/
import Derived.Test.YtlcfejgjeljjdaaGreatDoorMg15
namespace Go.Proofs.YtlcfejgjeljjdaaGreatDoor

/-- an expression's nodes, right by themselves -/
def ndGood (x : Nd) : Prop := wellN x = true ∧ exprK x.kind = true
def GoodT (T : Tr) : Prop := T.right ∧ ∀ x ∈ T.flat, ndGood x
theorem flatAll_mem {x : Nd} {ps : List Tr} : x ∈ flatAll ps ↔ ∃ T ∈ ps, x ∈ T.flat := by
  induction ps with
  | nil => simp [flatAll]
  | cons T r ih => rw [flatAll, List.mem_append, ih]; simp
theorem rightAll_iff {ps : List Tr} : rightAll ps ↔ ∀ T ∈ ps, T.right := by
  induction ps with
  | nil => simp [rightAll]
  | cons T r ih => rw [rightAll, ih]; simp
theorem good_node {x : Nd} {ps : List Tr} : GoodT (.node x ps) ↔ (x.n = (ps.length : Int) ∧ ndGood x ∧ ∀ T ∈ ps, GoodT T) := by
  unfold GoodT
  rw [Tr.right, Tr.flat, rightAll_iff]
  constructor
  · rintro ⟨⟨h1, h2⟩, h3⟩
    exact ⟨h1, h3 x (by simp), fun T hT => ⟨h2 T hT, fun y hy => h3 y (List.mem_append.2 (.inl (flatAll_mem.2 ⟨T, hT, hy⟩)))⟩⟩
  · rintro ⟨h1, h2, h3⟩
    refine ⟨⟨h1, fun T hT => (h3 T hT).1⟩, fun y hy => ?_⟩
    rcases List.mem_append.1 hy with hy | hy
    · obtain ⟨T, hT, hy⟩ := flatAll_mem.1 hy
      exact (h3 T hT).2 y hy
    · obtain rfl := List.mem_singleton.1 hy
      exact h2
theorem exprK_may {k q : Int} {i : Nat} (h : exprK k = true) : mayN k i q = exprK q := by unfold mayN; rw [if_pos (.inl h)]
theorem mayAll_expr {t : List Nd} {k : Int} (h : exprK k = true) : ∀ (i : Nat) (ps : List Nat), mayAll t k i ps = ps.all fun p => exprK (kindAt t p)
  | _, [] => rfl
  | i, p :: l => by rw [mayAll, exprK_may h, mayAll_expr h (i + 1) l, List.all_cons]
/-- a right tree of expressions is good -/
theorem good_of {t : List Nd} {fr : List Nat} (hc : checkN9 t = 0) (hb : beginsN t = some fr) {k : Nat} (hk : k < t.length) (he : exprK (kindAt t k) = true) : GoodT (trAt t fr k) := by
  have hF := formed_of hb
  refine ⟨right_at hF k hk, ?_⟩
  have hw : t.all wellN = true := by
    unfold checkN9 at hc
    split at hc
    · cases hc
    split at hc
    · cases hc
    rename_i h
    simpa using h
  have hf : ∀ k, k < t.length → fitsN t fr k = true := by
    unfold checkN9 at hc
    split at hc
    · cases hc
    split at hc
    · cases hc
    rw [hb] at hc
    simp only at hc
    split at hc
    · cases hc
    rename_i h
    intro k hk
    exact List.all_eq_true.1 (by simpa using h) k (List.mem_range.2 hk)
  clear hc
  induction k using Nat.strongRecOn with
  | ind k ih =>
    intro x hx
    rw [trAt_eq hF, Tr.flat] at hx
    rcases List.mem_append.1 hx with hx | hx
    · obtain ⟨T, hT, hx⟩ := flatAll_mem.1 hx
      obtain ⟨p, hp, rfl⟩ := List.mem_map.1 hT
      have hlt := hF.parts_lt hp
      refine ih p hlt (by omega) ?_ x hx
      have := hf k hk
      unfold fitsN at this
      rw [mayAll_expr he, Bool.and_eq_true, List.all_eq_true] at this
      exact this.1 p hp
    · obtain rfl := List.mem_singleton.1 hx
      have hx := List.getElem?_eq_getElem hk
      have hg : t.getD k nd0 = t[k] := by simp [List.getD, hk]
      rw [hg]
      exact ⟨List.all_eq_true.1 hw _ (List.getElem_mem hk), by rw [← kindAt_is hx]; exact he⟩
end Go.Proofs.YtlcfejgjeljjdaaGreatDoor
namespace Go.Proofs.YtlcfejgjeljjdaaGreatDoor

/-- a number that its type has -/
def Kept (v : Num) : Prop := asI v.2 v.1 = v.2
theorem kept_as (n : Int) (t : ByteArray) : Kept (t, asI n t) := asI_twice n t
theorem kept_truth (b : Bool) : Kept (iText12, truthI b) := by unfold Kept; cases b <;> decide
theorem unI_kept {m x : ByteArray} {a : Int} {v : Num} (h : unI m x a = some v) : Kept v := by
  unfold unI at h
  split at h
  · obtain rfl := Option.some.inj h; exact kept_truth _
  split at h
  · obtain rfl := Option.some.inj h; exact kept_as _ _
  split at h
  · obtain rfl := Option.some.inj h; exact kept_as _ _
  · cases h
theorem binI_kept {m x y : ByteArray} {a b : Int} {v : Num} (h : binI m x a y b = some v) : Kept v := by
  unfold binI at h
  split at h
  · obtain rfl := Option.some.inj h; exact kept_truth _
  split at h
  · obtain rfl := Option.some.inj h; exact kept_truth _
  split at h
  · obtain rfl := Option.some.inj h; exact kept_as _ _
  split at h
  · obtain rfl := Option.some.inj h; exact kept_truth _
  · simp only [Option.map_eq_some_iff] at h
    obtain ⟨n, _, rfl⟩ := h
    exact kept_as _ _
/-- sizes are numbers of unsigned -/
def SizesOk (L : List Sr) : Prop := ∀ s, 0 ≤ (sizeR L s).1 ∧ (sizeR L s).1 < 4294967296
theorem unI_type {m x : ByteArray} {a : Int} {v : Num} (h : unI m x a = some v) : v.1 = if m = mNot then iText12 else promI x := by
  unfold unI at h
  split at h
  · obtain rfl := Option.some.inj h; rename_i h1; rw [if_pos h1]
  rename_i h1
  split at h
  · obtain rfl := Option.some.inj h; rw [if_neg h1]
  split at h
  · obtain rfl := Option.some.inj h; rw [if_neg h1]
  · cases h
/-- kinds of what may be a constant -/
theorem shN_kinds {L : List Sr} {x : Nd} (h : shN L x = true) : x.kind = 1 ∨ x.kind = 9 ∨ x.kind = 7 ∨ x.kind = 4 ∨ x.kind = 15 ∨ x.kind = 17 := by
  unfold shN at h
  split at h
  · rename_i h; omega
  split at h
  · rename_i h; omega
  split at h
  · rename_i h; omega
  split at h
  · rename_i h; omega
  · cases h
theorem map_at {α : Type} (f : Tr → α) (ps : List Tr) (i : Nat) (d : α) (h : i < ps.length) : (ps.map f).getD i d = f ps[i] := by simp [List.getD, h]
/-- how many parts a constant's node has -/
theorem good_parts {x : Nd} {ps : List Tr} (hn : x.n = (ps.length : Int)) (hw : wellN x = true) : (x.kind = 1 ∨ x.kind = 17 → ps.length = 0) ∧ (x.kind = 4 ∨ x.kind = 15 → ps.length = 1) ∧ (x.kind = 7 → ps.length = 2) ∧ (x.kind = 9 → ps.length = 3) := by
  have h := well_parts hw
  refine ⟨fun hk => ?_, fun hk => ?_, fun hk => ?_, fun hk => ?_⟩
  · have : arityN x.kind = (0, 0) := by rcases hk with e | e <;> rw [e] <;> decide
    rw [this] at h; simp only at h; omega
  · have : arityN x.kind = (1, 1) := by rcases hk with e | e <;> rw [e] <;> decide
    rw [this] at h; simp only at h; omega
  · have : arityN x.kind = (2, 2) := by rw [hk]; decide
    rw [this] at h; simp only at h; omega
  · have : arityN x.kind = (3, 3) := by rw [hk]; decide
    rw [this] at h; simp only at h; omega
theorem good_number {x : Nd} (hw : wellN x = true) (hk : x.kind = 1) : (x.type = uText12 ∧ 0 ≤ x.int ∧ x.int < 4294967296) ∨ (x.type = iText12 ∧ -128 ≤ x.int ∧ x.int < 2147483648) := by
  unfold wellN at hw
  rw [if_pos hk, Bool.and_eq_true, Bool.and_eq_true] at hw
  have h := hw.2.1
  unfold numberN at h
  split at h
  · rename_i ht
    exact .inl ⟨ht, by simpa using h⟩
  · simp only [Bool.and_eq_true, decide_eq_true_eq] at h
    exact .inr h
/-- what a tree comes to has its type, and that type has it -/
theorem eval_kind {L : List Sr} (hL : SizesOk L) (T : Tr) : GoodT T → shapT L T = true → IntT (kindT T) ∧ ∀ v, evalT L T = some v → v.1 = kindT T ∧ Kept v := by
  refine tr_induct (P := fun T => GoodT T → shapT L T = true → IntT (kindT T) ∧ ∀ v, evalT L T = some v → v.1 = kindT T ∧ Kept v) (fun x ps ih hg hs => ?_) T
  obtain ⟨hn, ⟨hw, he⟩, hgs⟩ := good_node.1 hg
  rw [shapT_node, Bool.and_eq_true] at hs
  obtain ⟨hsa, hsx⟩ := hs
  have ihp : ∀ (i : Nat) (hi : i < ps.length), IntT (kindT ps[i]) ∧ ∀ v, evalT L ps[i] = some v → v.1 = kindT ps[i] ∧ Kept v := fun i hi => ih _ (List.getElem_mem hi) (hgs _ (List.getElem_mem hi)) (List.all_eq_true.1 hsa _ (List.getElem_mem hi))
  obtain ⟨p0, p1, p2, p3⟩ := good_parts hn hw
  rw [evalT_node, kindT_node]
  unfold evalN kindN
  rcases shN_kinds hsx with hk | hk | hk | hk | hk | hk
  · simp only [hk]
    simp only [true_or, if_true]
    refine ⟨?_, fun v hv => ?_⟩
    · rcases good_number hw hk with h | h
      · rw [h.1]; exact .inl rfl
      · rw [h.1]; exact .inr (.inr (.inr rfl))
    · obtain rfl := Option.some.inj hv
      exact ⟨rfl, kept_as _ _⟩
  · have hl := p3 hk
    simp only [hk]
    simp only [show ((9 : Int) = 17) = False by simp, show ((9 : Int) = 4) = False by simp, show ((9 : Int) = 1) = False by simp, show ((9 : Int) = 15) = False by simp, if_false, if_true, or_self]
    refine ⟨commI_int _ _, fun v hv => ?_⟩
    split at hv
    · cases hv
    · simp only [Option.map_eq_some_iff] at hv
      obtain ⟨y, _, rfl⟩ := hv
      exact ⟨rfl, kept_as _ _⟩
  · have hl := p2 hk
    simp only [hk]
    simp only [show ((7 : Int) = 17) = False by simp, show ((7 : Int) = 4) = False by simp, show ((7 : Int) = 1) = False by simp, show ((7 : Int) = 15) = False by simp, show ((7 : Int) = 9) = False by simp, if_false, or_self]
    refine ⟨madeK_int _ _ _, fun v hv => ?_⟩
    rw [map_at kindT ps 0 _ (by omega), map_at kindT ps 1 _ (by omega)]
    rw [map_at (evalT L) ps 0 _ (by omega), map_at (evalT L) ps 1 _ (by omega)] at hv
    split at hv
    · cases hv
    · rename_i a ha
      split at hv
      · rename_i hm
        obtain rfl := Option.some.inj hv
        refine ⟨?_, kept_truth _⟩
        unfold madeK
        rw [if_pos (by rcases hm with ⟨hm, _⟩ | ⟨hm, _⟩ <;> rw [hm] <;> decide)]
      · split at hv
        · cases hv
        · rename_i b hb
          have h0 := ((ihp 0 (by omega)).2 a ha).1
          have h1 := ((ihp 1 (by omega)).2 b hb).1
          rw [← h0, ← h1]
          exact ⟨binI_type hv, binI_kept hv⟩
  · have hl := p1 (.inl hk)
    simp only [hk]
    simp only [show ((4 : Int) = 17) = False by simp, show ((4 : Int) = 1) = False by simp, if_false, if_true, false_or]
    rw [map_at kindT ps 0 _ (by omega), map_at (evalT L) ps 0 _ (by omega)]
    refine ⟨?_, fun v hv => ?_⟩
    · by_cases hm : x.text = mNot
      · rw [if_pos hm]; exact .inr (.inr (.inr rfl))
      · rw [if_neg hm]; exact promI_int _
    split at hv
    · cases hv
    · rename_i a ha
      rw [← ((ihp 0 (by omega)).2 a ha).1]
      exact ⟨unI_type hv, unI_kept hv⟩
  · have hl := p1 (.inr hk)
    have ht : isIntS x.type = true := by
      unfold shN at hsx
      rw [if_neg (by omega), if_neg (by omega), if_pos hk] at hsx
      exact hsx
    simp only [hk]
    simp only [show ((15 : Int) = 17) = False by simp, show ((15 : Int) = 4) = False by simp, show ((15 : Int) = 1) = False by simp, or_true, if_false, if_true]
    refine ⟨?_, fun v hv => ?_⟩
    · exact isIntS_int ht
    split at hv
    · cases hv
    · obtain rfl := Option.some.inj hv
      exact ⟨rfl, kept_as _ _⟩
  · simp only [hk]
    simp only [show ((17 : Int) = 1) = False by simp, if_false, if_true, false_or]
    refine ⟨.inl rfl, fun v hv => ?_⟩
    obtain rfl := Option.some.inj hv
    refine ⟨rfl, ?_⟩
    have := hL x.type
    unfold Kept asI
    rw [if_pos rfl]
    show (sizeR L x.type).1 % 4294967296 = (sizeR L x.type).1
    omega
end Go.Proofs.YtlcfejgjeljjdaaGreatDoor
