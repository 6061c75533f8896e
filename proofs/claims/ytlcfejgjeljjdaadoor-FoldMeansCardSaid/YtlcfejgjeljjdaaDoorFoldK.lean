/- What is folded means the same; folded once more it is the same: the law. Plain: nothing of the program. -/
import Derived.Test.YtlcfejgjeljjdaaDoorMg22
namespace Go.Proofs.YtlcfejgjeljjdaaDoor

theorem asI_i {n : Int} (h1 : -2147483648 ≤ n) (h2 : n < 2147483648) : asI n iText12 = n := by
  unfold asI
  rw [if_neg (by decide), if_neg (by decide), if_neg (by decide), sgn32]
  omega
theorem asI_iback {n : Int} (h : asI n iText12 = n) : -2147483648 ≤ n ∧ n < 2147483648 := by
  unfold asI at h
  rw [if_neg (by decide), if_neg (by decide), if_neg (by decide), sgn32] at h
  omega
theorem asI_uback {n : Int} (h : asI n uText12 = n) : 0 ≤ n ∧ n < 4294967296 := by
  unfold asI at h
  rw [if_pos rfl] at h
  omega
theorem well_numT {n at_ : Int} {t : ByteArray} (ha : 0 ≤ at_ ∧ at_ ≤ 65536) (h : (t = uText12 ∧ 0 ≤ n ∧ n < 4294967296) ∨ (t = iText12 ∧ -128 ≤ n ∧ n < 2147483648)) : wellN ⟨1, 0, at_, n, ⟨#[]⟩, t⟩ = true := by
  unfold wellN sizeOk numberN noText
  rcases h with ⟨rfl, h1, h2⟩ | ⟨rfl, h1, h2⟩
  · simp [arityN, ha.1, ha.2, h1, h2, uText12]
    rfl
  · have : iText12 ≠ (⟨#[117]⟩ : ByteArray) := by decide
    simp [arityN, ha.1, ha.2, h1, h2, this]
    exact ⟨rfl, rfl⟩
theorem well_neg {at_ : Int} (ha : 0 ≤ at_ ∧ at_ ≤ 65536) : wellN ⟨4, 1, at_, 0, mSub, ⟨#[]⟩⟩ = true := by
  unfold wellN sizeOk intOk bodyOk noText
  simp [arityN, ha.1, ha.2, marksN]
  decide
theorem deepT_node (x : Nd) (ps : List Tr) : deepR (.node x ps) = (ps.map deepR).reverse.foldl max 0 + 1 := by rw [deepR, deepsT_map]
theorem le_foldl_max {l : List Nat} {a x : Nat} (h : x ∈ l ∨ x ≤ a) : x ≤ l.foldl max a := by
  induction l generalizing a with
  | nil => rcases h with h | h; cases h; exact h
  | cons y l ih =>
    rw [List.foldl_cons]
    apply ih
    rcases h with h | h
    · rcases List.mem_cons.1 h with rfl | h
      · exact .inr (by omega)
      · exact .inl h
    · exact .inr (by omega)
theorem deep_pos (T : Tr) : 1 ≤ deepR T := by cases T with | node x ps => rw [deepT_node]; omega
theorem deep_part {x : Nd} {ps : List Tr} {T : Tr} (h : T ∈ ps) : deepR T + 1 ≤ deepR (.node x ps) := by
  rw [deepT_node]
  have := le_foldl_max (l := (ps.map deepR).reverse) (a := 0) (x := deepR T) (.inl (by rw [List.mem_reverse]; exact List.mem_map.2 ⟨T, h, rfl⟩))
  omega
theorem wrT_node (L : List Sr) (x : Nd) (ps : List Tr) : wrT L (.node x ps) = if 1 < x.kind ∧ x.kind ≤ 17 then (constT L (.node x ps)).bind fun v => writeT v x.at_ else none := rfl
theorem kind_neg {at_ : Int} (ps : List Tr) (T : Tr) : kindT (.node ⟨4, 1, at_, 0, mSub, ⟨#[]⟩⟩ (T :: ps)) = promI (kindT T) := by
  rw [kindT_node]
  unfold kindN
  simp only
  rw [if_neg (by decide), if_neg (by decide), if_pos trivial, if_neg (by decide)]
  rfl
theorem eval_num {L : List Sr} {at_ n : Int} {t : ByteArray} (h : asI n t = n) : evalT L (.node ⟨1, 0, at_, n, ⟨#[]⟩, t⟩ []) = some (t, n) := by
  rw [evalT_node]
  unfold evalN
  rw [if_pos rfl, h]
theorem kind_num {at_ n : Int} {t : ByteArray} : kindT (.node ⟨1, 0, at_, n, ⟨#[]⟩, t⟩ []) = t := by
  rw [kindT_node]
  unfold kindN
  rw [if_pos (.inl rfl)]
theorem eval_neg {L : List Sr} {at_ n : Int} {T : Tr} (hT : evalT L T = some (iText12, -n)) (h1 : -2147483648 < n) (h2 : n < 0) : evalT L (.node ⟨4, 1, at_, 0, mSub, ⟨#[]⟩⟩ [T]) = some (iText12, n) := by
  rw [evalT_node]
  unfold evalN
  simp only [List.map_cons, List.map_nil, List.getD_cons_zero, hT]
  rw [if_neg (by decide), if_neg (by decide), if_pos trivial]
  unfold unI
  rw [if_neg (by decide), if_pos rfl, show promI iText12 = iText12 by decide, asI_i (n := -n) (by omega) (by omega), Int.neg_neg, asI_i (by omega) (by omega)]
/-- what is written is right, comes to the number, and is folded to itself -/
theorem write_good {L : List Sr} {v : Num} {at_ : Int} {W : Tr} (hk : Kept v) (ha : 0 ≤ at_ ∧ at_ ≤ 65536) (h : writeT v at_ = some W) :
    GoodT W ∧ shapT L W = true ∧ evalT L W = some v ∧ kindT W = v.1 ∧ foldT L W = W ∧ ((W.flat.length = 1 ∧ deepR W = 1) ∨ (v.1 = iText12 ∧ W.flat.length = 2 ∧ deepR W = 2)) := by
  unfold writeT at h
  split at h
  · cases h
  rename_i hv
  obtain ⟨t, n⟩ := v
  simp only [not_or, not_and, Decidable.not_not] at hv
  obtain ⟨ht, hm⟩ := hv
  unfold Kept at hk
  simp only at hk hm ht h
  have htt : t = uText12 ∨ t = iText12 := by
    by_cases h : t = iText12
    · exact .inr h
    · exact .inl (ht h)
  split at h
  · rename_i h0
    obtain rfl := Option.some.inj h
    have hw : wellN ⟨1, 0, at_, n, ⟨#[]⟩, t⟩ = true := well_numT ha (by
      rcases htt with rfl | rfl
      · have := asI_uback hk; exact .inl ⟨rfl, by omega, by omega⟩
      · have := asI_iback hk; exact .inr ⟨rfl, by omega, by omega⟩)
    refine ⟨good_node.2 ⟨rfl, ⟨hw, (by decide : exprK 1 = true)⟩, fun T hT => by cases hT⟩, ?_, eval_num hk, kind_num, ?_, .inl ⟨by simp [Tr.flat, flatAll], by rw [deepT_node]; rfl⟩⟩
    · unfold shapT; simp [Tr.flat, flatAll, shN]
    · rw [foldT_in (by unfold wrT; rw [if_neg (by simp [Tr.root])]) (by decide : (1 : Int) ≠ 16)]
      rfl
  · rename_i h0
    obtain rfl := Option.some.inj h
    have hti : t = iText12 := by
      rcases htt with rfl | rfl
      · have := asI_uback hk; omega
      · rfl
    subst hti
    have hr := asI_iback hk
    have hg1 : GoodT (.node ⟨1, 0, at_, -n, ⟨#[]⟩, iText12⟩ []) := good_node.2 ⟨rfl, ⟨well_numT ha (.inr ⟨rfl, by omega, by omega⟩), (by decide : exprK 1 = true)⟩, fun T hT => by cases hT⟩
    have hev : evalT L (.node ⟨4, 1, at_, 0, mSub, ⟨#[]⟩⟩ [.node ⟨1, 0, at_, -n, ⟨#[]⟩, iText12⟩ []]) = some (iText12, n) := eval_neg (eval_num (asI_i (by omega) (by omega))) (by omega) (by omega)
    have hsh : shapT L (.node ⟨4, 1, at_, 0, mSub, ⟨#[]⟩⟩ [.node ⟨1, 0, at_, -n, ⟨#[]⟩, iText12⟩ []]) = true := by
      unfold shapT; simp [Tr.flat, flatAll, shN]; decide
    refine ⟨good_node.2 ⟨rfl, ⟨well_neg ha, (by decide : exprK 4 = true)⟩, fun T hT => by obtain rfl := List.mem_singleton.1 hT; exact hg1⟩, hsh, hev, ?_, ?_, .inr ⟨rfl, by simp [Tr.flat, flatAll], by rw [deepT_node]; simp [deepT_node]⟩⟩
    · rw [kind_neg, kind_num]; exact (by decide : promI iText12 = iText12)
    · apply foldT_wr
      rw [wrT_node, if_pos (show (1 : Int) < 4 ∧ (4 : Int) ≤ 17 by decide)]
      unfold constT
      rw [if_pos hsh, hev]
      show writeT (iText12, n) at_ = _
      unfold writeT
      rw [if_neg (by simp; omega), if_neg h0]
theorem good_at {x : Nd} (h : wellN x = true) : 0 ≤ x.at_ ∧ x.at_ ≤ 65536 := by
  unfold wellN sizeOk at h
  simp only [Bool.and_eq_true, decide_eq_true_eq] at h
  exact ⟨h.1.2.2.2.1, h.1.2.2.2.2⟩
theorem flatAll_len {ps : List Tr} {f : Tr → Tr} (h : ∀ T ∈ ps, (f T).flat.length ≤ T.flat.length) : (flatAll (ps.map f)).length ≤ (flatAll ps).length := by
  induction ps with
  | nil => exact Nat.le_refl _
  | cons T r ih =>
    rw [List.map_cons, flatAll, flatAll, List.length_append, List.length_append]
    have := h T List.mem_cons_self
    have := ih fun S hS => h S (List.mem_cons_of_mem _ hS)
    omega
theorem map_same {α : Type} {ps : List Tr} {f : Tr → Tr} {g : Tr → α} (h : ∀ T ∈ ps, g (f T) = g T) : (ps.map f).map g = ps.map g := by
  rw [List.map_map]
  exact List.map_congr_left h
theorem wrT_some {L : List Sr} {T W : Tr} (h : wrT L T = some W) : 1 < T.root.kind ∧ T.root.kind ≤ 17 ∧ shapT L T = true ∧ ∃ v, evalT L T = some v ∧ writeT v T.root.at_ = some W := by
  unfold wrT at h
  split at h
  · rename_i hk
    unfold constT at h
    split at h
    · rename_i hs
      simp only [Option.bind_eq_some_iff] at h
      exact ⟨hk.1, hk.2, hs, h⟩
    · cases h
  · cases h
/-- what is folded is right, no deeper, no longer, of the same meaning; folded once more it is the same -/
theorem fold_main {L : List Sr} (hL : SizesOk L) (T : Tr) : GoodT T → GoodT (foldT L T) ∧ deepR (foldT L T) ≤ deepR T ∧ (foldT L T).flat.length ≤ T.flat.length ∧ shapT L (foldT L T) = shapT L T ∧ (shapT L T = true → kindT (foldT L T) = kindT T ∧ evalT L (foldT L T) = evalT L T) ∧ foldT L (foldT L T) = foldT L T := by
  refine tr_induct (P := fun T => GoodT T → GoodT (foldT L T) ∧ deepR (foldT L T) ≤ deepR T ∧ (foldT L T).flat.length ≤ T.flat.length ∧ shapT L (foldT L T) = shapT L T ∧ (shapT L T = true → kindT (foldT L T) = kindT T ∧ evalT L (foldT L T) = evalT L T) ∧ foldT L (foldT L T) = foldT L T) (fun x ps ih hg => ?_) T
  obtain ⟨hn, ⟨hw, he⟩, hgs⟩ := good_node.1 hg
  cases hwr : wrT L (.node x ps) with
  | some W =>
    rw [foldT_wr hwr]
    obtain ⟨hk1, hk2, hs, v, hev, hwv⟩ := wrT_some hwr
    obtain ⟨hi, hv⟩ := eval_kind hL _ hg hs
    obtain ⟨hv1, hv2⟩ := hv v hev
    obtain ⟨g1, g2, g3, g4, g5, g6⟩ := write_good (L := L) hv2 (good_at hw) hwv
    refine ⟨g1, ?_, ?_, by rw [g2, hs], fun _ => ⟨by rw [g4, hv1], by rw [g3, hev]⟩, g5⟩
    · have := deep_pos (.node x ps)
      rcases g6 with ⟨_, h⟩ | ⟨ht, _, h⟩
      · omega
      · have hp : 0 < ps.length := by
          rw [shapT_node, Bool.and_eq_true] at hs
          obtain ⟨p0, p1, p2, p3⟩ := good_parts hn hw
          simp only [Tr.root] at hk1
          rcases shN_kinds hs.2 with e | e | e | e | e | e
          · omega
          · have := p3 e; omega
          · have := p2 e; omega
          · have := p1 (.inl e); omega
          · have := p1 (.inr e); omega
          · rw [evalT_node] at hev
            unfold evalN at hev
            rw [if_neg (by omega), if_pos e] at hev
            obtain rfl := Option.some.inj hev
            exact absurd ht (by decide : ¬ uText12 = iText12)
        have := deep_part (x := x) (List.getElem_mem hp)
        have := deep_pos ps[0]
        omega
    · have := flat_pos (.node x ps)
      rcases g6 with ⟨h, _⟩ | ⟨ht, h, _⟩
      · omega
      · have hp : 0 < ps.length := by
          rw [shapT_node, Bool.and_eq_true] at hs
          obtain ⟨p0, p1, p2, p3⟩ := good_parts hn hw
          simp only [Tr.root] at hk1
          rcases shN_kinds hs.2 with e | e | e | e | e | e
          · omega
          · have := p3 e; omega
          · have := p2 e; omega
          · have := p1 (.inl e); omega
          · have := p1 (.inr e); omega
          · rw [evalT_node] at hev
            unfold evalN at hev
            rw [if_neg (by omega), if_pos e] at hev
            obtain rfl := Option.some.inj hev
            exact absurd ht (by decide : ¬ uText12 = iText12)
        have := flat_mem_lt (x := x) (List.getElem_mem hp)
        have := flat_pos ps[0]
        omega
  | none =>
    by_cases hk : x.kind = 16
    · rw [foldT_sz hwr hk]
      exact ⟨hg, Nat.le_refl _, Nat.le_refl _, rfl, fun _ => ⟨rfl, rfl⟩, foldT_sz hwr hk⟩
    · rw [foldT_in hwr hk]
      have ihp := fun T hT => ih T hT (hgs T hT)
      have hsa : shapAll L (ps.map (foldT L)) = shapAll L ps := by
        unfold shapAll
        rw [List.all_map]
        rw [Bool.eq_iff_iff, List.all_eq_true, List.all_eq_true]
        exact ⟨fun h T hT => by rw [← (ihp T hT).2.2.2.1]; exact h T hT, fun h T hT => by show shapT L (foldT L T) = true; rw [(ihp T hT).2.2.2.1]; exact h T hT⟩
      have hsh : shapT L (.node x (ps.map (foldT L))) = shapT L (.node x ps) := by rw [shapT_node, shapT_node, hsa]
      have hval : shapT L (.node x ps) = true → kindT (.node x (ps.map (foldT L))) = kindT (.node x ps) ∧ evalT L (.node x (ps.map (foldT L))) = evalT L (.node x ps) := fun hs => by
        rw [shapT_node, Bool.and_eq_true] at hs
        have hps : ∀ T ∈ ps, shapT L T = true := List.all_eq_true.1 hs.1
        have hkd : kindT (.node x (ps.map (foldT L))) = kindT (.node x ps) := by rw [kindT_node, kindT_node, map_same fun T hT => ((ihp T hT).2.2.2.2.1 (hps T hT)).1]
        refine ⟨hkd, ?_⟩
        rw [evalT_node, evalT_node, hkd, map_same fun T hT => ((ihp T hT).2.2.2.2.1 (hps T hT)).2]
      refine ⟨good_node.2 ⟨by rw [List.length_map]; exact hn, ⟨hw, he⟩, fun T hT => ?_⟩, ?_, ?_, hsh, hval, ?_⟩
      · obtain ⟨S, hS, rfl⟩ := List.mem_map.1 hT
        exact (ihp S hS).1
      · rw [deepR, deepR]
        exact Nat.succ_le_succ (deep_le (foldT L) rfl fun T hT => (ihp T hT).2.1)
      · rw [Tr.flat, Tr.flat, List.length_append, List.length_append]
        exact Nat.succ_le_succ (flatAll_len fun T hT => (ihp T hT).2.2.1)
      · have hwr2 : wrT L (.node x (ps.map (foldT L))) = none := by
          rw [← hwr]
          rw [wrT_node, wrT_node]
          unfold constT
          rw [hsh]
          split
          · split
            · rename_i hs; rw [(hval hs).2]
            · rfl
          · rfl
        rw [foldT_in hwr2 hk, map_same fun T hT => (ihp T hT).2.2.2.2.2]
theorem const_same {L : List Sr} (hL : SizesOk L) {T : Tr} (h : GoodT T) : constT L (foldT L T) = constT L T := by
  obtain ⟨_, _, _, h4, h5, _⟩ := fold_main hL T h
  unfold constT
  rw [h4]
  split
  · rename_i hs; exact (h5 hs).2
  · rfl
/-- a constant of unsigned is written as one node -/
theorem fold_u {L : List Sr} (hL : SizesOk L) {T : Tr} (h : GoodT T) {v : Num} (hv : constT L T = some v) (hu : v.1 = uText12) : (foldT L T).flat.length = 1 := by
  unfold constT at hv
  split at hv
  · rename_i hs
    obtain ⟨_, hk⟩ := eval_kind hL T h hs
    obtain ⟨h1, h2⟩ := hk v hv
    cases T with
    | node x ps =>
      obtain ⟨hn, ⟨hw, he⟩, hgs⟩ := good_node.1 h
      obtain ⟨p0, p1, p2, p3⟩ := good_parts hn hw
      rw [shapT_node, Bool.and_eq_true] at hs
      have hks := shN_kinds hs.2
      by_cases hk1 : x.kind = 1
      · have hp : ps = [] := List.eq_nil_of_length_eq_zero (p0 (.inl hk1))
        subst hp
        rw [foldT_in (by unfold wrT; rw [if_neg (by simp [Tr.root, hk1])]) (by omega)]
        simp [Tr.flat, flatAll]
      · have hr := asI_uback (n := v.2) (by rw [← hu]; exact h2)
        have hwr : wrT L (.node x ps) = some (.node ⟨1, 0, x.at_, v.2, ⟨#[]⟩, v.1⟩ []) := by
          rw [wrT_node, if_pos (by omega)]
          unfold constT
          rw [if_pos (by rw [shapT_node, hs.1, hs.2]; rfl), hv]
          show writeT v x.at_ = _
          unfold writeT
          rw [if_neg (by rw [hu]; simp; omega), if_pos hr.1]
        rw [foldT_wr hwr]
        simp [Tr.flat, flatAll]
  · cases hv
end Go.Proofs.YtlcfejgjeljjdaaDoor

