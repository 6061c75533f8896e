/- What is laid out of a tree has that tree. Plain: nothing of the program. · Common: the program. -/
import Derived.Test.YtlcfejgjeljjdaaDoorMg14
import Derived.Test.YtlcfejgjeljjdaaDoorMg6
namespace Go.Proofs.YtlcfejgjeljjdaaDoor

theorem flat_pos (T : Tr) : 0 < T.flat.length := by
  cases T with
  | node x ps => rw [Tr.flat]; simp
theorem flat_mem_lt {x : Nd} {ps : List Tr} {T : Tr} (h : T ∈ ps) : T.flat.length < (Tr.node x ps).flat.length := by
  rw [Tr.flat, List.length_append]
  have key : ∀ (ps : List Tr), T ∈ ps → T.flat.length ≤ (flatAll ps).length := by
    intro ps
    induction ps with
    | nil => intro h; cases h
    | cons S r ih =>
      intro h
      rw [flatAll, List.length_append]
      rcases List.mem_cons.1 h with rfl | h
      · omega
      · have := ih h; omega
  have := key ps h
  simp
  omega
/-- trees, by how many nodes they have -/
theorem tr_induct {P : Tr → Prop} (h : ∀ x ps, (∀ T ∈ ps, P T) → P (.node x ps)) (T : Tr) : P T := by
  have key : ∀ n, ∀ T : Tr, T.flat.length ≤ n → P T := by
    intro n
    induction n with
    | zero => intro T hT; have := flat_pos T; omega
    | succ n ih =>
      intro T hT
      cases T with
      | node x ps => exact h x ps fun S hS => ih S (by have := flat_mem_lt (x := x) hS; omega)
  exact key _ T (Nat.le_refl _)
mutual
/-- where parts begin, the first node being at i -/
def Tr.frs : Tr → Nat → List Nat
  | .node _ ps, i => frsAll ps i ++ [i]
def frsAll : List Tr → Nat → List Nat
  | [], _ => []
  | T :: r, i => T.frs i ++ frsAll r (i + T.flat.length)
end
theorem frsAll_append : ∀ (a b : List Tr) (i : Nat), frsAll (a ++ b) i = frsAll a i ++ frsAll b (i + (flatAll a).length)
  | [], b, i => by simp [frsAll, flatAll]
  | T :: r, b, i => by
    rw [List.cons_append, frsAll, frsAll, frsAll_append r b, flatAll, List.length_append, List.append_assoc, Nat.add_assoc]
theorem frsAll_len {ps : List Tr} (h : ∀ T ∈ ps, ∀ i, (T.frs i).length = T.flat.length) : ∀ i, (frsAll ps i).length = (flatAll ps).length := by
  induction ps with
  | nil => intro i; rfl
  | cons T r ih => intro i; rw [frsAll, flatAll, List.length_append, List.length_append, h T List.mem_cons_self, ih fun S hS => h S (List.mem_cons_of_mem _ hS)]
theorem frs_len (T : Tr) : ∀ i, (T.frs i).length = T.flat.length := by
  refine tr_induct (P := fun T => ∀ i, (T.frs i).length = T.flat.length) (fun x ps h i => ?_) T
  rw [Tr.frs, Tr.flat, List.length_append, List.length_append, frsAll_len h]
  rfl
theorem rightAll_mem {ps : List Tr} (h : rightAll ps) {T : Tr} (hT : T ∈ ps) : T.right := by
  induction ps with
  | nil => cases hT
  | cons S r ih =>
    rw [rightAll] at h
    rcases List.mem_cons.1 hT with rfl | hT
    · exact h.1
    · exact ih h.2 hT
/-- the stack behind trees: where each begins, the last one first -/
def stackE : List Tr → Nat → List Nat → List Nat
  | [], _, st => st
  | T :: r, i, st => stackE r (i + T.flat.length) (i :: st)
theorem stackE_drop : ∀ (ps : List Tr) (i : Nat) (st : List Nat), (stackE ps i st).length = ps.length + st.length ∧ (stackE ps i st).drop ps.length = st ∧ (0 < ps.length → (stackE ps i st).getD (ps.length - 1) 0 = i)
  | [], i, st => ⟨by simp [stackE], by simp [stackE], fun h => by simp at h⟩
  | T :: r, i, st => by
    obtain ⟨h1, h2, h3⟩ := stackE_drop r (i + T.flat.length) (i :: st)
    rw [stackE]
    refine ⟨by rw [h1]; simp; omega, ?_, fun _ => ?_⟩
    · rw [List.length_cons, ← List.drop_drop, h2]
      rfl
    · rw [List.length_cons, Nat.add_sub_cancel, List.getD_eq_getElem?_getD]
      have h4 : (stackE r (i + T.flat.length) (i :: st))[r.length]? = ((stackE r (i + T.flat.length) (i :: st)).drop r.length)[0]? := by rw [List.getElem?_drop, Nat.add_zero]
      rw [h4, h2]
      rfl
theorem begins_all {ps : List Tr} (h : ∀ T ∈ ps, ∀ (i : Nat) (st : List Nat) (l : List Nd), beginsF (T.flat ++ l) i st = (beginsF l (i + T.flat.length) (i :: st)).map fun r => (T.frs i ++ r.1, r.2)) :
    ∀ (i : Nat) (st : List Nat) (l : List Nd), beginsF (flatAll ps ++ l) i st = (beginsF l (i + (flatAll ps).length) (stackE ps i st)).map fun r => (frsAll ps i ++ r.1, r.2) := by
  induction ps with
  | nil =>
    intro i st l
    rw [flatAll, stackE]
    simp only [List.nil_append, frsAll, List.length_nil, Nat.add_zero]
    cases beginsF l i st <;> rfl
  | cons T r ih =>
    intro i st l
    rw [flatAll, List.append_assoc, h T List.mem_cons_self, ih (fun S hS => h S (List.mem_cons_of_mem _ hS)), stackE, frsAll, List.length_append, Nat.add_assoc, Option.map_map]
    congr 1
    funext r'
    simp [List.append_assoc]
theorem begins_flat (T : Tr) : T.right → ∀ (i : Nat) (st : List Nat) (l : List Nd), beginsF (T.flat ++ l) i st = (beginsF l (i + T.flat.length) (i :: st)).map fun r => (T.frs i ++ r.1, r.2) := by
  refine tr_induct (P := fun T => T.right → ∀ (i : Nat) (st : List Nat) (l : List Nd), beginsF (T.flat ++ l) i st = (beginsF l (i + T.flat.length) (i :: st)).map fun r => (T.frs i ++ r.1, r.2)) (fun x ps ih hr i st l => ?_) T
  rw [Tr.right] at hr
  obtain ⟨hn, hra⟩ := hr
  obtain ⟨h1, h2, h3⟩ := stackE_drop ps i st
  have hnn : x.n.toNat = ps.length := by omega
  rw [Tr.flat, List.append_assoc, begins_all (fun S hS => ih S hS (rightAll_mem hra hS)), List.singleton_append, beginsF, if_neg (by rw [h1]; omega)]
  have ha : (if 0 < x.n then (stackE ps i st).getD (x.n.toNat - 1) 0 else i + (flatAll ps).length) = i := by
    split
    · rw [hnn]; exact h3 (by omega)
    · have h0 : ps = [] := List.eq_nil_of_length_eq_zero (by omega)
      rw [h0]; simp [flatAll]
  simp only [ha]
  rw [hnn, h2, Option.map_map, List.length_append]
  simp only [List.length_cons, List.length_nil, Nat.zero_add]
  rw [Nat.add_assoc]
  congr 1
  funext r'
  simp [Tr.frs]
theorem begins_whole {T : Tr} (h : T.right) : beginsN T.flat = some (T.frs 0) := by
  have h1 := begins_flat T h 0 [] []
  rw [List.append_nil] at h1
  unfold beginsN
  rw [h1]
  simp [beginsF]
theorem rev_induct {α : Type} {P : List α → Prop} (h0 : P []) (h1 : ∀ qs T, P qs → P (qs ++ [T])) (l : List α) : P l := by
  have key : ∀ r : List α, P r.reverse := by
    intro r
    induction r with
    | nil => exact h0
    | cons a r ih => rw [List.reverse_cons]; exact h1 _ _ ih
  have := key l.reverse
  rwa [List.reverse_reverse] at this
/-- a tree stands at a place of nodes -/
def Stands (t : List Nd) (fr : List Nat) (T : Tr) (i : Nat) : Prop := (∀ j y, T.flat[j]? = some y → t[i + j]? = some y) ∧ ∀ j y, (T.frs i)[j]? = some y → fr[i + j]? = some y
def StandsAll (t : List Nd) (fr : List Nat) (ps : List Tr) (i : Nat) : Prop := (∀ j y, (flatAll ps)[j]? = some y → t[i + j]? = some y) ∧ ∀ j y, (frsAll ps i)[j]? = some y → fr[i + j]? = some y
theorem standsAll_split {t : List Nd} {fr : List Nat} {qs : List Tr} {T : Tr} {i : Nat} (h : StandsAll t fr (qs ++ [T]) i) : StandsAll t fr qs i ∧ Stands t fr T (i + (flatAll qs).length) := by
  obtain ⟨h1, h2⟩ := h
  rw [flatAll_append] at h1
  rw [frsAll_append] at h2
  have hl := frsAll_len (fun S (_ : S ∈ qs) i => frs_len S i) i
  refine ⟨⟨fun j y hj => h1 j y ?_, fun j y hj => h2 j y ?_⟩, fun j y hj => ?_, fun j y hj => ?_⟩
  · rw [List.getElem?_append_left (List.getElem?_eq_some_iff.1 hj).1]; exact hj
  · rw [List.getElem?_append_left (List.getElem?_eq_some_iff.1 hj).1]; exact hj
  · rw [Nat.add_assoc]
    refine h1 _ y ?_
    rw [List.getElem?_append_right (by omega), Nat.add_sub_cancel_left]
    simpa [flatAll] using hj
  · rw [Nat.add_assoc]
    refine h2 _ y ?_
    rw [List.getElem?_append_right (by omega), hl, Nat.add_sub_cancel_left]
    simpa [frsAll] using hj
theorem stands_last {t : List Nd} {fr : List Nat} {T : Tr} {i : Nat} (h : Stands t fr T i) : fr.getD (i + T.flat.length - 1) 0 = i := by
  cases T with
  | node x ps =>
    have hl := frsAll_len (fun S (_ : S ∈ ps) i => frs_len S i) i
    have h2 := h.2 (flatAll ps).length i (by rw [Tr.frs, List.getElem?_append_right (by omega), hl, Nat.sub_self]; rfl)
    rw [Tr.flat, List.length_append, List.length_cons, List.length_nil, show i + ((flatAll ps).length + (0 + 1)) - 1 = i + (flatAll ps).length by omega, List.getD_eq_getElem?_getD, h2]
    rfl
theorem parts_stand {t : List Nd} {fr : List Nat} {m : Nat} : ∀ (ps : List Tr) (i : Nat), StandsAll t fr ps i → (∀ T ∈ ps, ∀ i, Stands t fr T i → trF t fr m (i + T.flat.length - 1) = T) → (partsE fr ps.length (i + (flatAll ps).length)).map (trF t fr m) = ps := by
  intro ps
  refine rev_induct (P := fun ps => ∀ (i : Nat), StandsAll t fr ps i → (∀ T ∈ ps, ∀ i, Stands t fr T i → trF t fr m (i + T.flat.length - 1) = T) → (partsE fr ps.length (i + (flatAll ps).length)).map (trF t fr m) = ps) (fun i _ _ => rfl) (fun qs T ih i hS hT => ?_) ps
  · obtain ⟨h1, h2⟩ := standsAll_split hS
    have hT1 := hT T (by simp) _ h2
    have hl := stands_last h2
    have hp := flat_pos T
    rw [List.length_append, List.length_cons, List.length_nil, Nat.zero_add, partsE, flatAll_append, List.length_append, ← Nat.add_assoc]
    simp only [flatAll, List.append_nil]
    rw [hl, List.map_append, ih i h1 fun S hS => hT S (by simp [hS])]
    simp only [List.map_cons, List.map_nil]
    rw [hT1]
theorem stands_tr {t : List Nd} {fr : List Nat} (T : Tr) : T.right → ∀ (m i : Nat), T.flat.length ≤ m → Stands t fr T i → trF t fr m (i + T.flat.length - 1) = T := by
  refine tr_induct (P := fun T => T.right → ∀ (m i : Nat), T.flat.length ≤ m → Stands t fr T i → trF t fr m (i + T.flat.length - 1) = T) (fun x ps ih hr m i hm hS => ?_) T
  rw [Tr.right] at hr
  obtain ⟨hn, hra⟩ := hr
  have hlen : (Tr.node x ps).flat.length = (flatAll ps).length + 1 := by rw [Tr.flat]; simp
  have hk : i + (Tr.node x ps).flat.length - 1 = i + (flatAll ps).length := by omega
  have hx : t[i + (flatAll ps).length]? = some x := hS.1 _ x (by rw [Tr.flat, List.getElem?_append_right (Nat.le_refl _), Nat.sub_self]; rfl)
  have hA : StandsAll t fr ps i := ⟨fun j y hj => hS.1 j y (by rw [Tr.flat, List.getElem?_append_left (List.getElem?_eq_some_iff.1 hj).1]; exact hj), fun j y hj => hS.2 j y (by rw [Tr.frs, List.getElem?_append_left (List.getElem?_eq_some_iff.1 hj).1]; exact hj)⟩
  cases m with
  | zero => omega
  | succ m =>
    rw [hk, trF, partsAt_is hx, show x.n.toNat = ps.length by omega]
    have hg : t.getD (i + (flatAll ps).length) nd0 = x := by rw [List.getD_eq_getElem?_getD, hx]; rfl
    rw [hg]
    congr 1
    exact parts_stand ps i hA fun S hSm j hj => ih S hSm (rightAll_mem hra hSm) m j (by have := flat_mem_lt (x := x) hSm; omega) hj
/-- what is laid out of a tree has that tree -/
theorem tr_back {T : Tr} (h : T.right) : trAt T.flat (T.frs 0) (T.flat.length - 1) = T := by
  have hS : Stands T.flat (T.frs 0) T 0 := ⟨fun j y hj => by rw [Nat.zero_add]; exact hj, fun j y hj => by rw [Nat.zero_add]; exact hj⟩
  have hp := flat_pos T
  have := stands_tr (t := T.flat) (fr := T.frs 0) T h T.flat.length 0 (Nat.le_refl _) hS
  rw [Nat.zero_add] at this
  unfold trAt
  rw [show T.flat.length - 1 + 1 = T.flat.length by omega]
  exact this
end Go.Proofs.YtlcfejgjeljjdaaDoor
namespace Go.Proofs.YtlcfejgjeljjdaaDoor
open Go.RowKit

theorem common_no1 {a b : Option Ty} (h : a = none ∨ b = none) : commonV a b = .tuple #[.string ⟨#[]⟩, .int .i64 2] := by
  rcases h with rfl | rfl
  · rfl
  · cases a <;> rfl
theorem common_no2 {t u : Ty} (h : isIntT t = false ∨ isIntT u = false) : commonV (some t) (some u) = .tuple #[.string ⟨#[]⟩, .int .i64 5] := by
  rcases h with h | h <;> simp [commonV, h]
theorem common_u {t u : Ty} (h1 : isIntT t = true) (h2 : isIntT u = true) (h : isC 117 t = true ∨ isC 117 u = true) : commonV (some t) (some u) = .tuple #[.string (tyB (.base 117)), .int .i64 0] := by
  rcases h with h | h <;> simp [commonV, h1, h2, h]
theorem common_i {t u : Ty} (h1 : isIntT t = true) (h2 : isIntT u = true) (h3 : isC 117 t = false) (h4 : isC 117 u = false) : commonV (some t) (some u) = .tuple #[.string (tyB (.base 105)), .int .i64 0] := by
  simp [commonV, h1, h2, h3, h4]

set_option maxHeartbeats 2000000 in
theorem common_ok (a b : ByteArray) (w : World) (hE : TE w) : Calls Tryd.prog 28 #[.string a, .string b] w fun e w' => e = .returned (commonV (tyS a) (tyS b)) ∧ Below w.heap.size w w' := by
  have HE := Lib.hid hE
  rcases ha : tyS a with _ | t
  · have HF := Lib.hid (form_is false a w hE (by rw [ha]; rfl))
    have hfin := Lib.hid (common_no1 (a := none) (b := tyS b) (.inl rfl))
    clear ha hE
    go_enter Tryd.func28, Tryd.ntmps28
    go_wp2_with (go_at_call 47; (with_reducible refine HF.out.mono ?_); rintro e w1 ⟨rfl, hb1⟩)
    go_ret2
    exact ⟨tup_eq hfin.out.symm, hb1⟩
  · have HF := Lib.hid (form_is true a w hE (by rw [ha]; rfl))
    rcases hb : tyS b with _ | u
    · have HG := Lib.hid (fun w hE => form_is false b w hE (by rw [hb]; rfl))
      have hfin := Lib.hid (common_no1 (a := some t) (b := none) (.inr rfl))
      clear ha hb hE
      go_enter Tryd.func28, Tryd.ntmps28
      go_wp2_with (go_at_call 47; (with_reducible refine HF.out.mono ?_))
      rintro e w1 ⟨rfl, hb1⟩
      go_wp2_with (go_at_call 47; (with_reducible refine (HG.out _ (HE.out.below hb1)).mono ?_))
      rintro e w2 ⟨rfl, hb2⟩
      go_wp2_with fail
      go_ret2
      exact ⟨tup_eq hfin.out.symm, hb1.trans (hb2.mono hb1.size)⟩
    · have HG := Lib.hid (fun w hE => form_is true b w hE (by rw [hb]; rfl))
      have ia : isIntS a = isIntT t := by unfold isIntS; rw [ha]; rfl
      have ib : isIntS b = isIntT u := by unfold isIntS; rw [hb]; rfl
      obtain ⟨ea, ra, _⟩ := tyS_some.1 ha
      obtain ⟨eb, rb, _⟩ := tyS_some.1 hb
      have ua : (a.toList == [117]) = isC 117 t := by rw [ea]; exact one_is ra 117
      have ub : (b.toList == [117]) = isC 117 u := by rw [eb]; exact one_is rb 117
      rcases h1 : isIntT t with _ | _
      · have HI := Lib.hid (ia.trans h1)
        have hfin := Lib.hid (common_no2 (t := t) (u := u) (.inl h1))
        clear ha hb hE ia ib ea eb ra rb ua ub h1
        go_enter Tryd.func28, Tryd.ntmps28
        go_wp2_with (go_at_call 47; (with_reducible refine HF.out.mono ?_))
        rintro e w1 ⟨rfl, hb1⟩
        go_wp2_with (go_at_call 47; (with_reducible refine (HG.out _ (HE.out.below hb1)).mono ?_))
        rintro e w2 ⟨rfl, hb2⟩
        go_wp2_with (go_at_call 7; (with_reducible refine (isInt_is _ a _ HI.out).mono ?_); rintro e w3 ⟨rfl, rfl⟩)
        go_ret2
        exact ⟨tup_eq hfin.out.symm, hb1.trans (hb2.mono hb1.size)⟩
      · have HI := Lib.hid (ia.trans h1)
        rcases h2 : isIntT u with _ | _
        · have HJ := Lib.hid (ib.trans h2)
          have hfin := Lib.hid (common_no2 (t := t) (u := u) (.inr h2))
          clear ha hb hE ia ib ea eb ra rb ua ub h1 h2
          go_enter Tryd.func28, Tryd.ntmps28
          go_wp2_with (go_at_call 47; (with_reducible refine HF.out.mono ?_))
          rintro e w1 ⟨rfl, hb1⟩
          go_wp2_with (go_at_call 47; (with_reducible refine (HG.out _ (HE.out.below hb1)).mono ?_))
          rintro e w2 ⟨rfl, hb2⟩
          go_wp2_with (go_at_call 7; (with_reducible refine (isInt_is _ a _ HI.out).mono ?_))
          rintro e w3 ⟨rfl, rfl⟩
          go_wp2_with (go_at_call 7; (with_reducible refine (isInt_is _ b _ HJ.out).mono ?_); rintro e w3 ⟨rfl, rfl⟩)
          go_ret2
          exact ⟨tup_eq hfin.out.symm, hb1.trans (hb2.mono hb1.size)⟩
        · have HJ := Lib.hid (ib.trans h2)
          rcases h3 : isC 117 t with _ | _
          · rcases h4 : isC 117 u with _ | _
            · have hfin := Lib.hid (common_i h1 h2 h3 h4)
              rw [h3] at ua; rw [h4] at ub
              clear ha hb hE ia ib ea eb ra rb h1 h2 h3 h4
              go_enter Tryd.func28, Tryd.ntmps28
              go_wp2_with (go_at_call 47; (with_reducible refine HF.out.mono ?_))
              rintro e w1 ⟨rfl, hb1⟩
              go_wp2_with (go_at_call 47; (with_reducible refine (HG.out _ (HE.out.below hb1)).mono ?_))
              rintro e w2 ⟨rfl, hb2⟩
              go_wp2_with (go_at_call 7; (with_reducible refine (isInt_is _ a _ HI.out).mono ?_))
              rintro e w3 ⟨rfl, rfl⟩
              go_wp2_with (go_at_call 7; (with_reducible refine (isInt_is _ b _ HJ.out).mono ?_); rintro e w3 ⟨rfl, rfl⟩)
              go_ret2
              exact ⟨tup_eq hfin.out.symm, hb1.trans (hb2.mono hb1.size)⟩
            · have hfin := Lib.hid (common_u h1 h2 (.inr h4))
              rw [h3] at ua; rw [h4] at ub
              clear ha hb hE ia ib ea eb ra rb h1 h2 h3 h4
              go_enter Tryd.func28, Tryd.ntmps28
              go_wp2_with (go_at_call 47; (with_reducible refine HF.out.mono ?_))
              rintro e w1 ⟨rfl, hb1⟩
              go_wp2_with (go_at_call 47; (with_reducible refine (HG.out _ (HE.out.below hb1)).mono ?_))
              rintro e w2 ⟨rfl, hb2⟩
              go_wp2_with (go_at_call 7; (with_reducible refine (isInt_is _ a _ HI.out).mono ?_))
              rintro e w3 ⟨rfl, rfl⟩
              go_wp2_with (go_at_call 7; (with_reducible refine (isInt_is _ b _ HJ.out).mono ?_); rintro e w3 ⟨rfl, rfl⟩)
              go_ret2
              exact ⟨tup_eq hfin.out.symm, hb1.trans (hb2.mono hb1.size)⟩
          · have hfin := Lib.hid (common_u h1 h2 (.inl h3))
            rw [h3] at ua
            clear ha hb hE ia ib ea eb ra rb ub h1 h2 h3
            go_enter Tryd.func28, Tryd.ntmps28
            go_wp2_with (go_at_call 47; (with_reducible refine HF.out.mono ?_))
            rintro e w1 ⟨rfl, hb1⟩
            go_wp2_with (go_at_call 47; (with_reducible refine (HG.out _ (HE.out.below hb1)).mono ?_))
            rintro e w2 ⟨rfl, hb2⟩
            go_wp2_with (go_at_call 7; (with_reducible refine (isInt_is _ a _ HI.out).mono ?_))
            rintro e w3 ⟨rfl, rfl⟩
            go_wp2_with (go_at_call 7; (with_reducible refine (isInt_is _ b _ HJ.out).mono ?_); rintro e w3 ⟨rfl, rfl⟩)
            go_ret2
            exact ⟨tup_eq hfin.out.symm, hb1.trans (hb2.mono hb1.size)⟩

end Go.Proofs.YtlcfejgjeljjdaaDoor
