/- What a function uses of its file: each name once, as many as there are meanings. Plain: nothing of the program. · What a function uses of its file is there, each once, as many as there are meanings. Plain. -/
import Derived.Test.YtbbaooeioogijaaDoorMg20
import Derived.Test.YtbbaooeioogijaaDoorMg28
namespace Go.Proofs.YtbbaooeioogijaaDoor

/-- one more, if it is not there -/
def addL {α : Type} [DecidableEq α] (acc : List α) (a : α) : List α := if a ∈ acc then acc else acc ++ [a]
def dedupL {α : Type} [DecidableEq α] : List α → List α → List α
  | [], acc => acc
  | a :: l, acc => dedupL l (addL acc a)
theorem addL_mem {α : Type} [DecidableEq α] (acc : List α) (a x : α) : x ∈ addL acc a ↔ x ∈ acc ∨ x = a := by
  unfold addL
  split
  · rename_i h
    constructor
    · exact .inl
    · rintro (h1 | rfl)
      · exact h1
      · exact h
  · simp
theorem addL_nodup {α : Type} [DecidableEq α] {acc : List α} (h : acc.Nodup) (a : α) : (addL acc a).Nodup := by
  unfold addL
  split
  · exact h
  · rename_i hn
    rw [List.nodup_append]
    refine ⟨h, by simp, fun x hx y hy e => ?_⟩
    rw [List.mem_singleton] at hy
    subst hy; subst e
    exact hn hx
theorem dedupL_mem {α : Type} [DecidableEq α] : ∀ (l acc : List α) (x : α), x ∈ dedupL l acc ↔ x ∈ acc ∨ x ∈ l
  | [], acc, x => by simp [dedupL]
  | a :: l, acc, x => by
    rw [dedupL, dedupL_mem l, addL_mem, List.mem_cons, or_assoc]
theorem dedupL_nodup {α : Type} [DecidableEq α] : ∀ (l acc : List α), acc.Nodup → (dedupL l acc).Nodup
  | [], acc, h => h
  | a :: l, acc, h => by rw [dedupL]; exact dedupL_nodup l _ (addL_nodup h a)
theorem dedupL_append {α : Type} [DecidableEq α] : ∀ (l m acc : List α), dedupL (l ++ m) acc = dedupL m (dedupL l acc)
  | [], _, _ => rfl
  | a :: l, m, acc => by rw [List.cons_append, dedupL, dedupL, dedupL_append l m]
theorem dedupL_le {α : Type} [DecidableEq α] : ∀ (l acc : List α), (dedupL l acc).length ≤ acc.length + l.length
  | [], acc => by rw [dedupL]; simp
  | a :: l, acc => by
    rw [dedupL]
    have := dedupL_le l (addL acc a)
    have h2 : (addL acc a).length ≤ acc.length + 1 := by
      unfold addL
      split
      · omega
      · simp
    rw [List.length_cons]
    omega
theorem nodup_len {α : Type} [DecidableEq α] : ∀ {l m : List α}, l.Nodup → (∀ x ∈ l, x ∈ m) → l.length ≤ m.length
  | [], m, _, _ => Nat.zero_le _
  | a :: l, m, h, hs => by
    rw [List.nodup_cons] at h
    have h1 := nodup_len (l := l) (m := m.erase a) h.2 fun x hx => by
      have hne : x ≠ a := fun e => h.1 (e ▸ hx)
      exact (List.mem_erase_of_ne hne).2 (hs x (List.mem_cons_of_mem _ hx))
    have h2 := hs a List.mem_cons_self
    have h3 := List.length_erase_of_mem h2
    have h4 := List.length_pos_of_mem h2
    rw [List.length_cons]
    omega
/-- is it of the file? -/
def ofFile (b : Bnd) : Bool := decide (b.kind = 1) || decide (b.kind = 2)
/-- the names that nodes bound to the file have, in an order of places -/
def usedL (t : List Nd) (o : List Bnd) (ps : List Nat) : List ByteArray := (ps.filter fun k => decide ((t.getD k ndU0).kind = 3) && ofFile (o.getD k bnd0)).map fun k => (t.getD k ndU0).text
def usesN (t : List Nd) (fr : List Nat) (o : List Bnd) : List ByteArray := dedupL (usedL t o ((walkN t fr (t.length - 1) 1).map Prod.fst)) []
def seenL (o : List Bnd) : List Bnd := dedupL (o.filter ofFile) []
/-- a file's names: a meaning of the file is of one name -/
def OneName (fs : FileN) : Prop := ∀ n m b, fs.look n = some b → fs.look m = some b → ofFile b = true → n = m
structure GlobInv (G : List GlU) (i : Nat) (s : FileN) : Prop where
  one : ∀ n b, entB s.ents n = some b → b.kind = 1 → ∃ j, j < i ∧ b.idx = (j : Int) ∧ (G[j]?).map (fun g => g.var.name) = some n
theorem GlobInv.nil (G : List GlU) : GlobInv G 0 ⟨[], []⟩ := ⟨fun n b h => by cases h⟩
theorem globs_inv {G : List GlU} : ∀ (L : List GlU) (pre : List GlU) (s s' : FileN), G = pre ++ L → GlobInv G pre.length s → globsN L pre.length s = .inr s' → GlobInv G G.length s'
  | [], pre, s, s', hG, h, e => by
    rw [globsN] at e
    obtain rfl := Sum.inr.inj e
    rw [List.append_nil] at hG
    rw [hG]
    rw [hG] at h
    exact h
  | g :: r, pre, s, s', hG, h, e => by
    rw [globsN] at e
    split at e
    · cases e
    · have hl : (pre ++ [g]).length = pre.length + 1 := by simp
      rw [← hl] at e
      refine globs_inv r (pre ++ [g]) _ s' (by rw [hG]; simp) ⟨fun n b hb hk => ?_⟩ e
      unfold FileN.put at hb
      simp only at hb
      rw [entB_snoc] at hb
      rcases e1 : entB s.ents n with _ | c
      · rw [e1] at hb
        simp only at hb
        split at hb
        · rename_i hn
          obtain rfl := Option.some.inj hb
          refine ⟨pre.length, by omega, rfl, ?_⟩
          rw [hG, List.getElem?_append_right (Nat.le_refl _), Nat.sub_self]
          simp [hn]
        · cases hb
      · rw [e1] at hb
        obtain rfl := Option.some.inj hb
        obtain ⟨j, h1, h2, h3⟩ := h.one n c e1 hk
        exact ⟨j, by omega, h2, h3⟩
theorem one_inv {G : List GlU} {i : Nat} {s s' : FileN} {x : FnU} (h : GlobInv G i s) (e : oneF s x = .inr s') : GlobInv G i s' := by
  unfold oneF at e
  split at e
  · split at e
    · cases e
    split at e
    · cases e
    split at e
    · cases e
    split at e
    · obtain rfl := Sum.inr.inj e
      exact ⟨h.one⟩
    · obtain rfl := Sum.inr.inj e
      exact h
  · split at e
    · cases e
    · obtain rfl := Sum.inr.inj e
      refine ⟨fun n b hb hk => ?_⟩
      simp only at hb
      rw [entB_snoc] at hb
      rcases e1 : entB s.ents n with _ | c
      · rw [e1] at hb
        simp only at hb
        split at hb
        · obtain rfl := Option.some.inj hb
          exact absurd hk (show ¬ ((2 : Int) = 1) by decide)
        · cases hb
      · rw [e1] at hb
        obtain rfl := Option.some.inj hb
        exact h.one n c e1 hk
theorem funcs_inv {G : List GlU} {i : Nat} : ∀ (L : List FnU) {s s' : FileN}, GlobInv G i s → funcsN L s = .inr s' → GlobInv G i s'
  | [], s, s', h, e => by
    rw [funcsN] at e
    obtain rfl := Sum.inr.inj e
    exact h
  | x :: r, s, s', h, e => by
    rw [funcsN] at e
    rcases hx : oneF s x with c | s1
    · rw [hx] at e; cases e
    · rw [hx] at e
      exact funcs_inv r (one_inv h hx) e
theorem file_inv {u : UnU} {fs : FileN} (h : fileN u = .inr fs) : GlobInv u.globals u.globals.length fs := by
  unfold fileN at h
  split at h
  · cases h
  · rcases hg : globsN u.globals 0 ⟨[], []⟩ with f | s1
    · rw [hg] at h; cases h
    · rw [hg] at h
      exact funcs_inv _ (globs_inv u.globals [] _ s1 rfl (GlobInv.nil _) hg) h
theorem look_file {fs : FileN} {n : ByteArray} {b : Bnd} (h : fs.look n = some b) (hk : ofFile b = true) : entB fs.ents n = some b := by
  unfold FileN.look at h
  rcases he : entB fs.ents n with _ | d
  · rw [he] at h
    have := bltE_kind h
    unfold ofFile at hk
    rw [Bool.or_eq_true, decide_eq_true_eq, decide_eq_true_eq] at hk
    omega
  · rw [he] at h
    exact h
theorem one_name {u : UnU} {fs : FileN} (h : fileN u = .inr fs) (hok : FileOk fs) : OneName fs := fun n m b hn hm hk => by
  have h1 := look_file hn hk
  have h2 := look_file hm hk
  have hi := file_inv h
  rcases (hok.kinds n b h1).1 with k | k
  · obtain ⟨j, _, e1, n1⟩ := hi.one n b h1 k
    obtain ⟨j2, _, e2, n2⟩ := hi.one m b h2 k
    have : j = j2 := by omega
    subst this
    rw [n1] at n2
    exact Option.some.inj n2
  · have a1 := ((hok.kinds n b h1).2 k).2.2
    have a2 := ((hok.kinds m b h2).2 k).2.2
    rw [← a1, ← a2]
theorem ent_mem {L : List (ByteArray × Bnd)} {n : ByteArray} {b : Bnd} (h : entB L n = some b) : n ∈ L.map Prod.fst := by
  unfold entB at h
  simp only [Option.map_eq_some_iff] at h
  obtain ⟨q, hq, _⟩ := h
  have h1 := List.mem_of_find?_eq_some hq
  have h2 := List.find?_some hq
  simp only [decide_eq_true_eq] at h2
  exact List.mem_map.2 ⟨q, h1, h2⟩
/-- what nodes are bound to, each a meaning of its text -/
def Bound (fs : FileN) (t : List Nd) (o : List Bnd) : Prop := o.length = t.length ∧ ∀ k, k < t.length → ofFile (o.getD k bnd0) = true → (t.getD k ndU0).kind = 3 ∧ fs.look (t.getD k ndU0).text = some (o.getD k bnd0)
/-- places that are gone over are all places -/
def AllOver (t : List Nd) (ps : List Nat) : Prop := ∀ k, k ∈ ps ↔ k < t.length
theorem used_mem {t : List Nd} {o : List Bnd} {ps : List Nat} (ha : AllOver t ps) (n : ByteArray) : n ∈ usedL t o ps ↔ ∃ k, k < t.length ∧ (t.getD k ndU0).kind = 3 ∧ ofFile (o.getD k bnd0) = true ∧ (t.getD k ndU0).text = n := by
  unfold usedL
  simp only [List.mem_map, List.mem_filter, Bool.and_eq_true, decide_eq_true_eq]
  constructor
  · rintro ⟨k, ⟨h1, h2, h3⟩, h4⟩
    exact ⟨k, (ha k).1 h1, h2, h3, h4⟩
  · rintro ⟨k, h1, h2, h3, h4⟩
    exact ⟨k, ⟨(ha k).2 h1, h2, h3⟩, h4⟩
theorem seen_mem {t : List Nd} {o : List Bnd} (hl : o.length = t.length) (b : Bnd) : b ∈ seenL o ↔ ∃ k, k < t.length ∧ ofFile (o.getD k bnd0) = true ∧ o.getD k bnd0 = b := by
  unfold seenL
  rw [dedupL_mem]
  simp only [List.not_mem_nil, false_or, List.mem_filter]
  constructor
  · rintro ⟨h1, h2⟩
    obtain ⟨k, hk, e⟩ := List.getElem_of_mem h1
    have e2 : o.getD k bnd0 = b := by rw [List.getD_eq_getElem?_getD, List.getElem?_eq_getElem hk]; exact e
    exact ⟨k, by omega, by rw [e2]; exact h2, e2⟩
  · rintro ⟨k, hk, h2, e⟩
    have hk' : k < o.length := by omega
    have e2 : o.getD k bnd0 = o[k] := by rw [List.getD_eq_getElem?_getD, List.getElem?_eq_getElem hk']; rfl
    rw [e] at h2
    rw [e] at e2
    exact ⟨by rw [e2]; exact List.getElem_mem hk', h2⟩
theorem uses_look {fs : FileN} {t : List Nd} {o : List Bnd} {ps : List Nat} (hb : Bound fs t o) (ha : AllOver t ps) {n : ByteArray} (h : n ∈ dedupL (usedL t o ps) []) : ∃ b, fs.look n = some b ∧ ofFile b = true ∧ b ∈ seenL o := by
  rw [dedupL_mem] at h
  simp only [List.not_mem_nil, false_or] at h
  obtain ⟨k, h1, h2, h3, h4⟩ := (used_mem ha n).1 h
  refine ⟨o.getD k bnd0, ?_, h3, (seen_mem hb.1 _).2 ⟨k, h1, h3, rfl⟩⟩
  rw [← h4]
  exact (hb.2 k h1 h3).2
theorem map_nodup {α β : Type} {f : α → β} : ∀ {l : List α}, l.Nodup → (∀ x ∈ l, ∀ y ∈ l, f x = f y → x = y) → (l.map f).Nodup
  | [], _, _ => List.nodup_nil
  | a :: l, h, hi => by
    rw [List.nodup_cons] at h
    rw [List.map_cons, List.nodup_cons]
    refine ⟨fun hm => ?_, map_nodup h.2 fun x hx y hy => hi x (List.mem_cons_of_mem _ hx) y (List.mem_cons_of_mem _ hy)⟩
    obtain ⟨x, hx, e⟩ := List.mem_map.1 hm
    have := hi x (List.mem_cons_of_mem _ hx) a List.mem_cons_self e
    subst this
    exact h.1 hx
/-- as many names as meanings -/
theorem uses_count {fs : FileN} {t : List Nd} {o : List Bnd} {ps : List Nat} (h1 : OneName fs) (hb : Bound fs t o) (ha : AllOver t ps) : (dedupL (usedL t o ps) []).length = (seenL o).length := by
  have hU := dedupL_nodup (usedL t o ps) [] List.nodup_nil
  have hS : (seenL o).Nodup := dedupL_nodup _ [] List.nodup_nil
  have hm : ((dedupL (usedL t o ps) []).map fun n => (fs.look n).getD bnd0).Nodup := map_nodup hU fun x hx y hy e => by
    obtain ⟨b, e1, k1, _⟩ := uses_look hb ha hx
    obtain ⟨c, e2, k2, _⟩ := uses_look hb ha hy
    rw [e1, e2] at e
    simp only [Option.getD_some] at e
    subst e
    exact h1 x y b e1 e2 k1
  have a1 := nodup_len hm (m := seenL o) fun b hbm => by
    obtain ⟨n, hn, e⟩ := List.mem_map.1 hbm
    obtain ⟨c, e1, _, h3⟩ := uses_look hb ha hn
    rw [e1] at e
    simp only [Option.getD_some] at e
    subst e
    exact h3
  have a2 := nodup_len hS (m := (dedupL (usedL t o ps) []).map fun n => (fs.look n).getD bnd0) fun b hbm => by
    obtain ⟨k, k1, k2, rfl⟩ := (seen_mem hb.1 b).1 hbm
    obtain ⟨k3, k4⟩ := hb.2 k k1 k2
    refine List.mem_map.2 ⟨(t.getD k ndU0).text, ?_, by rw [k4]; rfl⟩
    rw [dedupL_mem]
    exact .inr ((used_mem ha _).2 ⟨k, k1, k3, k2, rfl⟩)
  rw [List.length_map] at a1 a2
  omega
end Go.Proofs.YtbbaooeioogijaaDoor
namespace Go.Proofs.YtbbaooeioogijaaDoor

theorem oneF_lenK {s s' : FileN} {x : FnU} (h : oneF s x = .inr s') : s'.ents.length ≤ s.ents.length + 1 := by
  unfold oneF at h
  split at h
  · split at h
    · cases h
    split at h
    · cases h
    split at h
    · cases h
    split at h <;> (cases h; simp)
  · split at h
    · cases h
    · cases h; simp
theorem funcsN_lenK : ∀ {L : List FnU} {s s' : FileN}, funcsN L s = .inr s' → s'.ents.length ≤ s.ents.length + L.length
  | [], s, s', h => by
    rw [funcsN] at h
    obtain rfl := Sum.inr.inj h
    exact Nat.le_refl _
  | x :: r, s, s', h => by
    rw [funcsN] at h
    rcases hx : oneF s x with c | s1
    · rw [hx] at h; cases h
    · rw [hx] at h
      have h1 := funcsN_lenK h
      have h2 := oneF_lenK hx
      rw [List.length_cons]
      omega
theorem globsN_lenK : ∀ {L : List GlU} {i : Nat} {s s' : FileN}, globsN L i s = .inr s' → s'.ents.length ≤ s.ents.length + L.length
  | [], i, s, s', h => by
    rw [globsN] at h
    obtain rfl := Sum.inr.inj h
    exact Nat.le_refl _
  | g :: r, i, s, s', h => by
    rw [globsN] at h
    split at h
    · cases h
    · have h1 := globsN_lenK h
      have e : (s.put g.var.name ⟨1, (i : Int), g.var.type⟩).ents.length = s.ents.length + 1 := by simp [FileN.put]
      rw [e] at h1
      rw [List.length_cons]
      omega
theorem unitE_lens {u : UnU} (h : (unitE u).2 = 0) : u.globals.length ≤ 256 ∧ u.funcs.length ≤ 256 := by
  unfold unitE at h
  split at h
  · exact absurd h (by decide)
  · omega
/-- a file has few names -/
theorem file_lenK {u : UnU} {fs : FileN} (h : fileN u = .inr fs) : fs.ents.length ≤ 512 := by
  obtain ⟨h0, s, h1, h2, _, _⟩ := fileN_0 h
  obtain ⟨l1, l2⟩ := unitE_lens h0
  have a1 := globsN_lenK h1
  have a2 := funcsN_lenK h2
  simp only [List.length_nil] at a1
  omega
theorem walk_all {t : List Nd} {fr : List Nat} (hb : beginsN t = some fr) (hl : 0 < t.length) : AllOver t ((walkN t fr (t.length - 1) 1).map Prod.fst) := fun k => by
  have hF := formed_of hb
  constructor
  · intro h
    obtain ⟨x, hx, rfl⟩ := List.mem_map.1 h
    have := (walkN_le hF (t.length - 1 + 1) (t.length - 1) 1 (by omega) x hx).1
    omega
  · intro h
    have hc := walk_cnt hb (fun j => decide (j = k)) (t.length - 1 + 1) (t.length - 1) 1 (by omega) (by omega)
    rw [begins_ends hb, show t.length - 1 + 1 = t.length by omega, cntR_add _ (Nat.zero_le k) (Nat.le_of_lt h), cntR_add _ (Nat.le_succ k) h, cntR_one] at hc
    simp only [decide_true, if_true] at hc
    have hp : 0 < (walkN t fr (t.length - 1) 1).countP (fun x => decide (x.1 = k)) := by omega
    obtain ⟨x, hx, e⟩ := List.countP_pos_iff.1 hp
    exact List.mem_map.2 ⟨x, hx, of_decide_eq_true e⟩
theorem gone_lenK (fs : FileN) (f : FnU) : (goneR fs f).out.length = f.body.length := by
  unfold goneR
  simp only
  rw [(grow_n _ _ _ _ _).2.2.2.1, (parms_len _ _ _ _).2.1]
  simp
theorem bound_k {fs : FileN} {f : FnU} {fr : List Nat} (hok : FileOk fs) (hb : beginsN f.body = some fr) (hne : f.body ≠ []) (h0 : (goneR fs f).fault.2 = 0) : Bound fs f.body (goneR fs f).out := by
  obtain ⟨hc, hp⟩ := gone_ok hok hb hne h0
  rw [hp] at hc
  have hlen := gone_lenK fs f
  refine ⟨hlen, fun k hk ho => ?_⟩
  have hn := hc.near k (Nat.zero_le _) hk (by simpa using hk)
  by_cases hkd : (f.body.getD k ndU0).kind = 3 ∨ (f.body.getD k ndU0).kind = 22
  · rw [if_pos hkd] at hn
    obtain ⟨c, h1, h2, h3⟩ := hn
    have hcc : (goneR fs f).out.getD k bnd0 = c := by rw [List.getD_eq_getElem?_getD, h1]; rfl
    rw [hcc] at ho ⊢
    have hk3 : c.kind ≠ 3 := fun e => by
      unfold ofFile at ho
      rw [e] at ho
      exact absurd ho (by decide)
    rcases h2 with ⟨h4, _⟩ | ⟨_, h4⟩
    · exact absurd h4 hk3
    · exact ⟨hkd.resolve_right fun e => hk3 (h3 e), h4⟩
  · rw [if_neg hkd, List.getElem?_replicate, if_pos hk] at hn
    have hcc : (goneR fs f).out.getD k bnd0 = bnd0 := by rw [List.getD_eq_getElem?_getD, hn]; rfl
    rw [hcc] at ho
    exact absurd ho (by decide)
/-- what is used is there, each once, as many as there are meanings -/
theorem known_all {u : UnU} {n : ByteArray} {fs : FileN} {f : FnU} (hfile : fileN u = .inr fs) (hbody : bodyOf fs n = some f) (h0 : (goneR fs f).fault.2 = 0) :
    f.body.length ≤ 4096 ∧ (∀ x ∈ usesN f.body ((beginsN f.body).getD []) (goneR fs f).out, x ∈ fs.ents.map Prod.fst) ∧ (usesN f.body ((beginsN f.body).getD []) (goneR fs f).out).Nodup ∧ (usesN f.body ((beginsN f.body).getD []) (goneR fs f).out).length = (seenL (goneR fs f).out).length := by
  have hok := file_ok hfile
  obtain ⟨_, _, _, _, _, hget, _, hne⟩ := bodyOf_some hok hbody
  obtain ⟨_, hbt⟩ := funcE_0 (file_funcs hfile f (List.mem_of_getElem? hget)).2
  obtain ⟨hl, _, fr, hbg, _⟩ := check9_0 (hbt.resolve_left hne).1
  rw [hbg, Option.getD_some]
  have hB := bound_k hok hbg hne h0
  have hA := walk_all hbg (List.length_pos_iff.2 hne)
  refine ⟨hl, fun x hx => ?_, dedupL_nodup _ _ List.nodup_nil, uses_count (one_name hfile hok) hB hA⟩
  obtain ⟨b, h1, h2, _⟩ := uses_look hB hA hx
  exact ent_mem (look_file h1 h2)
/-- the meanings so far -/
def seenK (o : List Bnd) (i : Nat) : List Bnd := dedupL ((o.take i).filter ofFile) []
theorem seenK_all (o : List Bnd) : seenK o o.length = seenL o := by unfold seenK seenL; rw [List.take_length]
theorem seenK_next {o : List Bnd} {i : Nat} (h : i < o.length) : seenK o (i + 1) = if ofFile o[i] = true then addL (seenK o i) o[i] else seenK o i := by
  unfold seenK
  rw [List.take_succ_eq_append_getElem h, List.filter_append, dedupL_append]
  by_cases e : ofFile o[i] = true
  · rw [if_pos e, List.filter_cons, if_pos e]
    rfl
  · rw [if_neg e, List.filter_cons, if_neg e]
    rfl
theorem seenK_le (o : List Bnd) (i : Nat) : (seenK o i).length ≤ i := by
  unfold seenK
  have h1 := dedupL_le ((o.take i).filter ofFile) []
  have h2 := List.length_filter_le ofFile (o.take i)
  have h3 := List.length_take_le i o
  simp only [List.length_nil, Nat.zero_add] at h1
  omega
end Go.Proofs.YtbbaooeioogijaaDoor
