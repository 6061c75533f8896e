/- Trees: what is so of parts, of open ifs, of depths. Plain: nothing of the program. · Going over a tree: each place once, a whole ahead of its parts. Plain: nothing of the program. · Trees as trees: the tree at a place, its nodes; what is laid out of a tree has that tree. Plain: nothing of the program. -/
import Derived.Test.YtlcfejgjeljjdaaDoorMg13
namespace Go.Proofs.YtlcfejgjeljjdaaDoor

theorem partsE_length (fr : List Nat) : ∀ (n e : Nat), (partsE fr n e).length = n
  | 0, _ => rfl
  | n + 1, e => by rw [partsE, List.length_append, partsE_length fr n]; rfl
theorem partsE_lt {fr : List Nat} : ∀ {n e : Nat}, Back fr n e → ∀ p ∈ partsE fr n e, p < e
  | 0, _, _, p, hp => by rw [partsE] at hp; cases hp
  | n + 1, e, ⟨h1, h2, h3⟩, p, hp => by
    rw [partsE] at hp
    rcases List.mem_append.1 hp with hp | hp
    · have := partsE_lt h3 p hp; omega
    · obtain rfl := List.mem_singleton.1 hp; omega
/-- parts of a node that is there -/
theorem partsAt_is {t : List Nd} {fr : List Nat} {k : Nat} {x : Nd} (hx : t[k]? = some x) : partsAt t fr k = partsE fr x.n.toNat k := by unfold partsAt; rw [hx]; rfl
theorem kindAt_is {t : List Nd} {k : Nat} {x : Nd} (hx : t[k]? = some x) : kindAt t k = x.kind := by unfold kindAt; rw [hx]; rfl
theorem Formed.parts_lt {t : List Nd} {fr : List Nat} (h : Formed t fr) {k p : Nat} (hp : p ∈ partsAt t fr k) : p < k := by
  unfold partsAt at hp
  cases hx : t[k]? with
  | none => rw [hx] at hp; simp [partsE] at hp
  | some x =>
    rw [hx] at hp
    exact partsE_lt (h.node k x hx).2.1 p hp
/-- a well formed tree's nodes, right by themselves: how many parts there are -/
theorem well_parts {x : Nd} (h : wellN x = true) : (arityN x.kind).1 ≤ x.n ∧ x.n ≤ (arityN x.kind).2 ∧ 0 ≤ (arityN x.kind).1 := by
  unfold wellN sizeOk at h
  simp only [Bool.and_eq_true, decide_eq_true_eq] at h
  exact ⟨h.1.2.1, h.1.2.2.1, h.1.1⟩
theorem openF_more {t : List Nd} {fr : List Nat} (h : Formed t fr) (hw : ∀ (k : Nat) x, t[k]? = some x → wellN x = true) : ∀ (m k : Nat), k < t.length → k < m → openF t fr m k = openF t fr (k + 1) k
  | 0, k, _, hk => by omega
  | m + 1, k, hl, hk => by
    have hx := List.getElem?_eq_getElem hl
    have hwx := well_parts (hw k _ hx)
    rw [openF, openF]
    have hpl : (partsAt t fr k).length = t[k].n.toNat := by rw [partsAt_is hx, partsE_length]
    have hkd := kindAt_is hx
    have key : ∀ i, i < (partsAt t fr k).length → openF t fr m ((partsAt t fr k).getD i 0) = openF t fr k ((partsAt t fr k).getD i 0) := fun i hi => by
      have hm : (partsAt t fr k).getD i 0 ∈ partsAt t fr k := by
        rw [List.getD_eq_getElem?_getD, List.getElem?_eq_getElem hi]
        exact List.getElem_mem hi
      have hlt := h.parts_lt hm
      rw [openF_more h hw m _ (by omega) (by omega), openF_more h hw k _ (by omega) hlt]
    by_cases h23 : kindAt t k = 23
    · rw [if_pos h23, if_pos h23]
      by_cases h2 : (partsAt t fr k).length = 2
      · simp [h2]
      · have : 2 < (partsAt t fr k).length := by
          rw [hkd] at h23
          rw [h23] at hwx
          have : arityN 23 = (2, 3) := by decide
          rw [this] at hwx
          rw [hpl] at h2 ⊢
          simp only at hwx
          omega
        rw [key 2 this]
    · rw [if_neg h23, if_neg h23]
      split
      · rename_i hk5
        have : 0 < (partsAt t fr k).length := by
          have ha : 1 ≤ (arityN t[k].kind).1 := by
            rw [hkd] at hk5
            rcases hk5 with e | e | e | e | e <;> rw [e] <;> decide
          rw [hpl]
          omega
        rw [key _ (by omega)]
      · rfl
theorem open_if {t : List Nd} {fr : List Nat} (h : Formed t fr) (hw : ∀ (k : Nat) x, t[k]? = some x → wellN x = true) {k : Nat} (hl : k < t.length) (h23 : kindAt t k = 23) : openN t fr k = (decide ((partsAt t fr k).length = 2) || (decide (2 < (partsAt t fr k).length) && openN t fr ((partsAt t fr k).getD 2 0))) := by
  unfold openN
  rw [openF]
  rw [if_pos h23]
  by_cases h2 : (partsAt t fr k).length = 2
  · simp [h2]
  · have hx := List.getElem?_eq_getElem hl
    have hwx := well_parts (hw k _ hx)
    have hpl : (partsAt t fr k).length = t[k].n.toNat := by rw [partsAt_is hx, partsE_length]
    have h3 : 2 < (partsAt t fr k).length := by
      rw [kindAt_is hx] at h23
      rw [h23, show arityN 23 = (2, 3) by decide] at hwx
      rw [hpl] at h2 ⊢
      simp only at hwx
      omega
    have hm : (partsAt t fr k).getD 2 0 ∈ partsAt t fr k := by
      rw [List.getD_eq_getElem?_getD, List.getElem?_eq_getElem h3]
      exact List.getElem_mem h3
    have hlt := h.parts_lt hm
    rw [openF_more h hw k _ (by omega) hlt]
    simp [h2, h3]
theorem open_last {t : List Nd} {fr : List Nat} (h : Formed t fr) (hw : ∀ (k : Nat) x, t[k]? = some x → wellN x = true) {k : Nat} (hl : k < t.length) (h5 : kindAt t k = 24 ∨ kindAt t k = 26 ∨ kindAt t k = 27 ∨ kindAt t k = 28 ∨ kindAt t k = 29) :
    0 < (partsAt t fr k).length ∧ openN t fr k = openN t fr ((partsAt t fr k).getD ((partsAt t fr k).length - 1) 0) := by
  have hx := List.getElem?_eq_getElem hl
  have hwx := well_parts (hw k _ hx)
  have hpl : (partsAt t fr k).length = t[k].n.toNat := by rw [partsAt_is hx, partsE_length]
  have h0 : 0 < (partsAt t fr k).length := by
    have ha : 1 ≤ (arityN t[k].kind).1 := by
      have := h5
      rw [kindAt_is hx] at this
      rcases this with e | e | e | e | e <;> rw [e] <;> decide
    rw [hpl]; omega
  have hm : (partsAt t fr k).getD ((partsAt t fr k).length - 1) 0 ∈ partsAt t fr k := by
    rw [List.getD_eq_getElem?_getD, List.getElem?_eq_getElem (by omega)]
    exact List.getElem_mem _
  refine ⟨h0, ?_⟩
  unfold openN
  rw [openF]
  rw [if_neg (by omega), if_pos h5, openF_more h hw k _ (by have := h.parts_lt hm; omega) (h.parts_lt hm)]
theorem open_no {t : List Nd} {fr : List Nat} {k : Nat} (h : kindAt t k ≠ 23 ∧ kindAt t k ≠ 24 ∧ kindAt t k ≠ 26 ∧ kindAt t k ≠ 27 ∧ kindAt t k ≠ 28 ∧ kindAt t k ≠ 29) : openN t fr k = false := by
  unfold openN
  rw [openF]
  rw [if_neg (by omega), if_neg (by omega)]
end Go.Proofs.YtlcfejgjeljjdaaDoor
namespace Go.Proofs.YtlcfejgjeljjdaaDoor

/-- where the first of n parts begins, the last of which ends ahead of e -/
def startE (fr : List Nat) : Nat → Nat → Nat
  | 0, e => e
  | n + 1, e => startE fr n (fr.getD (e - 1) 0)
theorem Ends.start {fr : List Nat} : ∀ {st : List Nat} {e n : Nat}, Ends fr st e → n ≤ st.length → startE fr n e = if 0 < n then st.getD (n - 1) 0 else e
  | _, _, 0, _, _ => rfl
  | [], _, n + 1, _, h => by simp at h
  | s :: st, e, n + 1, ⟨_, h2, h3⟩, h => by
    rw [startE, h2, Ends.start h3 (by simpa using h), if_pos (Nat.succ_pos n)]
    cases n with
    | zero => rfl
    | succ n => rw [if_pos (Nat.succ_pos n), Nat.add_sub_cancel, Nat.add_sub_cancel]; rfl
theorem begins_start : ∀ (l : List Nd) (pre : List Nat) (st : List Nat) {f st' : List Nat}, beginsF l pre.length st = some (f, st') → Ends pre st pre.length →
    ∀ (j : Nat) x, l[j]? = some x → startE (pre ++ f) x.n.toNat (pre.length + j) = (pre ++ f).getD (pre.length + j) 0
  | [], _, _, _, _, _, _ => fun j x hx => by simp at hx
  | x :: l, pre, st, f, st', h, he => by
    have hfull := begins_back (x :: l) pre st h he
    rw [beginsF] at h
    split at h
    · cases h
    · rename_i hn
      simp only [Option.map_eq_some_iff] at h
      obtain ⟨⟨g, st2⟩, hg, e⟩ := h
      obtain ⟨rfl, rfl⟩ := Prod.mk.inj e
      simp only at hg ⊢
      generalize ha : (if 0 < x.n then st.getD (x.n.toNat - 1) 0 else pre.length) = a at *
      have hle : x.n.toNat ≤ st.length := by omega
      have ha1 : a ≤ pre.length := by
        rw [← ha]
        split
        · exact Nat.le_of_lt (he.lt _ (by omega))
        · exact Nat.le_refl _
      have he2 : Ends (pre ++ [a]) (a :: st.drop x.n.toNat) (pre ++ [a]).length := by
        refine ⟨by simp; omega, by simp, ?_⟩
        by_cases h0 : 0 < x.n
        · rw [if_pos h0] at ha
          rw [← ha]
          exact (he.drop x.n.toNat (by omega) hle).app (by rw [ha]; exact ha1)
        · rw [if_neg h0] at ha
          have : x.n.toNat = 0 := by omega
          rw [this, ← ha]
          simpa using he.app (Nat.le_refl _)
      have hl1 : (pre ++ [a]).length = pre.length + 1 := by simp
      have h3 := begins_start l (pre ++ [a]) _ (by rw [hl1]; exact hg) he2
      have hap : pre ++ [a] ++ g = pre ++ a :: g := by simp
      rw [hap, hl1] at h3
      intro j y hy
      cases j with
      | zero =>
        obtain rfl := Option.some.inj hy
        have h4 := (he.app (g := a :: g) (Nat.le_refl _)).start (n := x.n.toNat) hle
        rw [Nat.add_zero, h4]
        have h5 : (pre ++ a :: g).getD pre.length 0 = a := by rw [List.getD_eq_getElem?_getD, List.getElem?_append_right (Nat.le_refl _), Nat.sub_self]; rfl
        rw [h5, ← ha]
        by_cases h0 : 0 < x.n
        · rw [if_pos (by omega), if_pos h0]
        · rw [if_neg (by omega), if_neg h0]
      | succ j =>
        have := h3 j y (by simpa using hy)
        rw [show pre.length + (j + 1) = pre.length + 1 + j by omega]
        exact this
theorem start_of {t : List Nd} {fr : List Nat} (h : beginsN t = some fr) {j : Nat} {x : Nd} (hx : t[j]? = some x) : startE fr x.n.toNat j = fr.getD j 0 := by
  unfold beginsN at h
  split at h
  · rename_i f s hb
    obtain rfl := Option.some.inj h
    have := begins_start t [] [] hb trivial j x hx
    simpa using this
  · cases h
/-- where all that waits begins -/
theorem begins_low : ∀ (l : List Nd) (i : Nat) (st : List Nat) {f st' : List Nat}, beginsF l i st = some (f, st') → (st ≠ [] → st.getLast? = some 0) → (st = [] → i = 0) → st' ≠ [] → st'.getLast? = some 0
  | [], i, st, f, st', h, h1, _, h3 => by
    rw [beginsF] at h
    obtain ⟨_, rfl⟩ := Prod.mk.inj (Option.some.inj h)
    exact h1 h3
  | x :: l, i, st, f, st', h, h1, h2, h3 => by
    rw [beginsF] at h
    split at h
    · cases h
    · rename_i hn
      simp only [Option.map_eq_some_iff] at h
      obtain ⟨⟨g, st2⟩, hg, e⟩ := h
      obtain ⟨_, rfl⟩ := Prod.mk.inj e
      refine begins_low l (i + 1) _ hg (fun _ => ?_) (fun h => by cases h) h3
      by_cases hs : st = []
      · subst hs
        have : x.n.toNat = 0 := by simp at hn; omega
        rw [this, if_neg (by simp at hn; omega), h2 rfl]
        rfl
      · have hl := h1 hs
        rcases Nat.lt_or_ge x.n.toNat st.length with h' | h'
        · have hd : st.drop x.n.toNat ≠ [] := by simp; omega
          rw [List.getLast?_cons_of_ne_nil hd, List.getLast?_drop, if_neg (by omega)]
          exact hl
        · have hd : st.drop x.n.toNat = [] := by simp; omega
          have hpos : 0 < st.length := List.length_pos_iff.2 hs
          rw [hd, if_pos (by omega)]
          rw [List.getLast?_eq_getElem?] at hl
          have e1 : x.n.toNat - 1 = st.length - 1 := by omega
          rw [List.getD_eq_getElem?_getD, e1, hl]
          rfl
/-- the whole, the last of all, begins at the beginning -/
theorem begins_ends {t : List Nd} {fr : List Nat} (h : beginsN t = some fr) : fr.getD (t.length - 1) 0 = 0 := by
  unfold beginsN at h
  split at h
  · rename_i f s hb
    obtain rfl := Option.some.inj h
    obtain ⟨_, h2, _⟩ := begins_back t [] [] hb trivial
    simp only [List.nil_append, List.length_nil, Nat.zero_add] at h2
    have h3 := begins_low t 0 [] hb (fun h => absurd rfl h) (fun _ => rfl) (by simp)
    simp at h3
    rw [h2.2.1, h3]
  · cases h
/-- so many nodes are in the parts -/
theorem back_sum {fr : List Nat} : ∀ {n e : Nat}, Back fr n e → startE fr n e ≤ e ∧ ((partsE fr n e).map fun p => p + 1 - fr.getD p 0).sum = e - startE fr n e
  | 0, e, _ => ⟨Nat.le_refl _, by simp [partsE, startE]⟩
  | n + 1, e, ⟨h1, h2, h3⟩ => by
    obtain ⟨a, b⟩ := back_sum h3
    refine ⟨by rw [startE]; omega, ?_⟩
    rw [partsE, List.map_append, List.sum_append, b, startE]
    simp only [List.map_cons, List.map_nil, List.sum_cons, List.sum_nil]
    omega

end Go.Proofs.YtlcfejgjeljjdaaDoor
namespace Go.Proofs.YtlcfejgjeljjdaaDoor

inductive Tr where
  | node (x : Nd) (ps : List Tr)
def Tr.root : Tr → Nd
  | .node x _ => x
def Tr.parts : Tr → List Tr
  | .node _ ps => ps
def nd0 : Nd := ⟨0, 0, 0, 0, ⟨#[]⟩, ⟨#[]⟩⟩
mutual
/-- the nodes, a whole behind its parts -/
def Tr.flat : Tr → List Nd
  | .node x ps => flatAll ps ++ [x]
def flatAll : List Tr → List Nd
  | [] => []
  | T :: r => T.flat ++ flatAll r
end
mutual
/-- each node says how many parts it has -/
def Tr.right : Tr → Prop
  | .node x ps => x.n = (ps.length : Int) ∧ rightAll ps
def rightAll : List Tr → Prop
  | [] => True
  | T :: r => T.right ∧ rightAll r
end
theorem flatAll_append : ∀ (a b : List Tr), flatAll (a ++ b) = flatAll a ++ flatAll b
  | [], _ => rfl
  | T :: r, b => by rw [List.cons_append, flatAll, flatAll, flatAll_append r b, List.append_assoc]
def trF (t : List Nd) (fr : List Nat) : Nat → Nat → Tr
  | 0, k => .node (t.getD k nd0) []
  | m + 1, k => .node (t.getD k nd0) ((partsAt t fr k).map (trF t fr m))
/-- the tree that ends at a place -/
def trAt (t : List Nd) (fr : List Nat) (k : Nat) : Tr := trF t fr (k + 1) k
theorem trF_more {t : List Nd} {fr : List Nat} (h : Formed t fr) : ∀ (m k : Nat), k < m → trF t fr m k = trF t fr (k + 1) k
  | 0, k, hk => by omega
  | m + 1, k, hk => by
    rw [trF, trF]
    congr 1
    refine List.map_congr_left fun p hp => ?_
    have := h.parts_lt hp
    rw [trF_more h m p (by omega), trF_more h k p (by omega)]
theorem trAt_eq {t : List Nd} {fr : List Nat} (h : Formed t fr) (k : Nat) : trAt t fr k = .node (t.getD k nd0) ((partsAt t fr k).map (trAt t fr)) := by
  unfold trAt
  rw [trF]
  congr 1
  refine List.map_congr_left fun p hp => ?_
  rw [trF_more h k p (h.parts_lt hp)]
/-- nodes from a place up to another one -/
def segN (t : List Nd) (a b : Nat) : List Nd := (t.drop a).take (b - a)
theorem segN_join (t : List Nd) {a b c : Nat} (h1 : a ≤ b) (h2 : b ≤ c) : segN t a b ++ segN t b c = segN t a c := by
  unfold segN
  rw [show c - a = (b - a) + (c - b) by omega, List.take_add, List.drop_drop, show a + (b - a) = b by omega]
theorem segN_one {t : List Nd} {k : Nat} (h : k < t.length) : segN t k (k + 1) = [t.getD k nd0] := by
  unfold segN
  have h1 : t.getD k nd0 = t[k] := by simp [List.getD, h]
  rw [h1, show k + 1 - k = 1 by omega, List.drop_eq_getElem_cons h, List.take_succ_cons, List.take_zero]
theorem back_flat {t : List Nd} {fr : List Nat} : ∀ {n e : Nat}, Back fr n e → (∀ p, p < e → fr.getD p 0 ≤ p → (trAt t fr p).flat = segN t (fr.getD p 0) (p + 1)) → flatAll ((partsE fr n e).map (trAt t fr)) = segN t (startE fr n e) e
  | 0, e, _, _ => by simp [partsE, startE, flatAll, segN]
  | n + 1, e, ⟨h1, h2, h3⟩, ih => by
    have hb := back_flat (t := t) h3 (fun p hp => ih p (by omega))
    rw [partsE, List.map_append, flatAll_append, hb, startE]
    simp only [List.map_cons, List.map_nil, flatAll, List.append_nil]
    rw [ih (e - 1) (by omega) (by omega), show e - 1 + 1 = e by omega]
    exact segN_join t (back_sum h3).1 (by omega)
/-- the tree at a place is made of the nodes from where it begins -/
theorem flatT_at {t : List Nd} {fr : List Nat} (hb : beginsN t = some fr) : ∀ (k : Nat), k < t.length → (trAt t fr k).flat = segN t (fr.getD k 0) (k + 1) := by
  have hF := formed_of hb
  intro k
  induction k using Nat.strongRecOn with
  | ind k ih =>
    intro hk
    have hx := List.getElem?_eq_getElem hk
    obtain ⟨_, h2, h3⟩ := hF.node k _ hx
    have h4 := start_of hb hx
    rw [trAt_eq hF, Tr.flat, partsAt_is hx, back_flat h2 (fun p hp _ => ih p hp (by omega)), h4, ← segN_one hk]
    exact segN_join t h3 (by omega)
theorem flat_whole {t : List Nd} {fr : List Nat} (hb : beginsN t = some fr) : (trAt t fr (t.length - 1)).flat = t := by
  have hF := formed_of hb
  have hp := hF.pos
  rw [flatT_at hb _ (by omega), begins_ends hb, show t.length - 1 + 1 = t.length by omega]
  unfold segN
  simp
/-- each of its nodes says how many parts it has -/
theorem right_at {t : List Nd} {fr : List Nat} (hF : Formed t fr) : ∀ (k : Nat), k < t.length → (trAt t fr k).right := by
  have hall : ∀ (L : List Nat), (∀ p ∈ L, (trAt t fr p).right) → rightAll (L.map (trAt t fr)) := by
    intro L
    induction L with
    | nil => intro _; trivial
    | cons p r ih => intro h; exact ⟨h p List.mem_cons_self, ih fun q hq => h q (List.mem_cons_of_mem _ hq)⟩
  intro k
  induction k using Nat.strongRecOn with
  | ind k ih =>
    intro hk
    have hx := List.getElem?_eq_getElem hk
    obtain ⟨h1, h2, _⟩ := hF.node k _ hx
    rw [trAt_eq hF, Tr.right]
    refine ⟨?_, hall _ fun p hp => ?_⟩
    · rw [List.length_map, partsAt_is hx, partsE_length]
      rw [show t.getD k nd0 = t[k] from by simp [List.getD, hk]]
      omega
    · have := hF.parts_lt hp
      exact ih p this (by omega)
end Go.Proofs.YtlcfejgjeljjdaaDoor
