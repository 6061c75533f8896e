/- A slot named anew: what a function's names stand for changes no more than that name. Plain: nothing of the program. -/
import Derived.Test.YtbbaooeioogijaaDoorMg23
namespace Go.Proofs.YtbbaooeioogijaaDoor

/-- what is named anew: slot i, its new name -/
def renB (i : Nat) (b : Bnd) : Bool := decide (b.kind = 3) && decide (b.idx = (i : Int))
def renNd (i : Nat) (nu : ByteArray) (x : Nd) (b : Bnd) : Nd := if renB i b = true then ⟨x.kind, x.n, x.at_, x.int, nu, x.type⟩ else x
def renT (i : Nat) (nu : ByteArray) (o : List Bnd) (t : List Nd) : List Nd := t.zipIdx.map fun q => renNd i nu q.1 (o.getD q.2 bnd0)
def renSl (nu : ByteArray) (x : SlU) : SlU := ⟨nu, x.type, x.vol, x.param⟩
def renVr (nu : ByteArray) (x : VrU) : VrU := ⟨nu, x.type, x.vol⟩
theorem renT_len (i : Nat) (nu : ByteArray) (o : List Bnd) (t : List Nd) : (renT i nu o t).length = t.length := by simp [renT]
theorem renT_at (i : Nat) (nu : ByteArray) (o : List Bnd) (t : List Nd) (k : Nat) : (renT i nu o t)[k]? = (t[k]?).map fun x => renNd i nu x (o.getD k bnd0) := by
  unfold renT
  rw [List.getElem?_map, List.getElem?_zipIdx]
  rcases t[k]? with _ | x <;> simp
theorem renT_getD (i : Nat) (nu : ByteArray) (o : List Bnd) (t : List Nd) {k : Nat} (hk : k < t.length) : (renT i nu o t).getD k ndU0 = renNd i nu (t.getD k ndU0) (o.getD k bnd0) := by
  rw [List.getD_eq_getElem?_getD, List.getD_eq_getElem?_getD, renT_at, List.getElem?_eq_getElem hk]
  rfl
theorem renNd_same (i : Nat) (nu : ByteArray) (x : Nd) (b : Bnd) : (renNd i nu x b).kind = x.kind ∧ (renNd i nu x b).n = x.n ∧ (renNd i nu x b).at_ = x.at_ ∧ (renNd i nu x b).int = x.int ∧ (renNd i nu x b).type = x.type := by
  unfold renNd
  split <;> exact ⟨rfl, rfl, rfl, rfl, rfl⟩
theorem begins_same : ∀ (l m : List Nd) (i : Nat) (st : List Nat), l.map Nd.n = m.map Nd.n → beginsF l i st = beginsF m i st
  | [], [], _, _, _ => rfl
  | [], _ :: _, _, _, h => by simp at h
  | _ :: _, [], _, _, h => by simp at h
  | x :: l, y :: m, i, st, h => by
    simp only [List.map_cons, List.cons.injEq] at h
    rw [beginsF, beginsF]
    simp only [h.1, begins_same l m _ _ h.2]
theorem renT_n (i : Nat) (nu : ByteArray) (o : List Bnd) (t : List Nd) : (renT i nu o t).map Nd.n = t.map Nd.n := by
  refine List.ext_getElem? fun k => ?_
  rw [List.getElem?_map, List.getElem?_map, renT_at]
  rcases t[k]? with _ | x
  · rfl
  · exact congrArg some (renNd_same i nu x (o.getD k bnd0)).2.1
theorem renT_begins (i : Nat) (nu : ByteArray) (o : List Bnd) (t : List Nd) : beginsN (renT i nu o t) = beginsN t := by
  unfold beginsN
  rw [begins_same _ t 0 [] (renT_n i nu o t)]
theorem renT_parts (i : Nat) (nu : ByteArray) (o : List Bnd) (t : List Nd) (fr : List Nat) (k : Nat) : partsAt (renT i nu o t) fr k = partsAt t fr k := by
  rcases h : t[k]? with _ | x
  · unfold partsAt
    rw [renT_at, h]
    rfl
  · rw [partsAt_is h, partsAt_is (x := renNd i nu x (o.getD k bnd0)) (by rw [renT_at, h]; rfl), (renNd_same i nu x _).2.1]
/-- entries of a scope, named anew -/
def renE (i : Nat) (nu : ByteArray) (q : ByteArray × Bnd) : ByteArray × Bnd := if renB i q.2 = true then (nu, q.2) else q
/-- two scopes, one named anew -/
structure ScR (i : Nat) (nu : ByteArray) (s s' : ScN) : Prop where
  ents : s'.ents = s.ents.map (renE i nu)
  away : ∀ q ∈ s.ents, q.1 ≠ nu
inductive ChR (i : Nat) (nu : ByteArray) : List ScN → List ScN → Prop
  | nil : ChR i nu [] []
  | cons {s s' : ScN} {up up' : List ScN} : ScR i nu s s' → ChR i nu up up' → ChR i nu (s :: up) (s' :: up')
theorem ent_other {i : Nat} {nu : ByteArray} : ∀ (L : List (ByteArray × Bnd)) {n : ByteArray}, n ≠ nu → (∀ b, entB L n = some b → renB i b = false) → entB (L.map (renE i nu)) n = entB L n
  | [], _, _, _ => rfl
  | (m, b) :: L, n, hn, h => by
    rw [List.map_cons]
    unfold renE
    by_cases hb : renB i b = true
    · rw [if_pos hb, entB_cons, if_neg (fun e => hn e.symm)]
      have hm : m ≠ n := fun e => by
        have := h b (by rw [entB_cons, if_pos e])
        rw [hb] at this; cases this
      rw [entB_cons, if_neg hm]
      refine ent_other L hn fun c hc => h c ?_
      rw [entB_cons, if_neg hm]
      exact hc
    · rw [if_neg hb, entB_cons, entB_cons]
      by_cases hm : m = n
      · rw [if_pos hm, if_pos hm]
      · rw [if_neg hm, if_neg hm]
        refine ent_other L hn fun c hc => h c ?_
        rw [entB_cons, if_neg hm]
        exact hc
theorem ent_none {i : Nat} {nu : ByteArray} : ∀ (L : List (ByteArray × Bnd)) {n : ByteArray}, n ≠ nu → entB L n = none → entB (L.map (renE i nu)) n = none
  | L, n, hn, h => by
    rw [ent_other L hn (fun b hb => by rw [h] at hb; cases hb)]
    exact h
theorem ent_to {i : Nat} {nu : ByteArray} : ∀ (L : List (ByteArray × Bnd)), (∀ q ∈ L, q.1 ≠ nu) → ∀ b, entB (L.map (renE i nu)) nu = some b → renB i b = true ∧ ∃ n, (n, b) ∈ L
  | [], _, b, h => by cases h
  | (m, c) :: L, ha, b, h => by
    have hm := ha (m, c) List.mem_cons_self
    rw [List.map_cons] at h
    unfold renE at h
    by_cases hb : renB i c = true
    · rw [if_pos hb, entB_cons, if_pos rfl] at h
      obtain rfl := Option.some.inj h
      exact ⟨hb, m, List.mem_cons_self⟩
    · rw [if_neg hb, entB_cons, if_neg hm] at h
      obtain ⟨h1, n, h2⟩ := ent_to L (fun q hq => ha q (List.mem_cons_of_mem _ hq)) b h
      exact ⟨h1, n, List.mem_cons_of_mem _ h2⟩
theorem ent_has {i : Nat} {nu : ByteArray} : ∀ (L : List (ByteArray × Bnd)) {n : ByteArray} {b : Bnd}, (n, b) ∈ L → renB i b = true → ∃ c, entB (L.map (renE i nu)) nu = some c
  | (m, c) :: L, n, b, h, hb => by
    rw [List.map_cons]
    unfold renE
    by_cases hc : renB i c = true
    · rw [if_pos hc, entB_cons, if_pos rfl]
      exact ⟨c, rfl⟩
    · rw [if_neg hc, entB_cons]
      by_cases hm : m = nu
      · rw [if_pos hm]; exact ⟨c, rfl⟩
      · rw [if_neg hm]
        rcases List.mem_cons.1 h with e | h
        · cases e; exact absurd hb hc
        · exact ent_has L h hb
/-- a name's entry, and all entries -/
theorem ent_in {L : List (ByteArray × Bnd)} {n : ByteArray} {b : Bnd} (h : entB L n = some b) : (n, b) ∈ L := by
  unfold entB at h
  simp only [Option.map_eq_some_iff] at h
  obtain ⟨q, hq, rfl⟩ := h
  have h1 := List.mem_of_find?_eq_some hq
  have h2 := List.find?_some hq
  simp only [decide_eq_true_eq] at h2
  rw [← h2]
  exact h1
/-- all entries of slot i are b -/
def OneB (i : Nat) (b : Bnd) (s : ScN) : Prop := ∀ q ∈ s.ents, renB i q.2 = true → q.2 = b
theorem find_other {fs fs' : FileN} (hl : ∀ n, fs'.look n = fs.look n) {i : Nat} {nu : ByteArray} : ∀ {c c' : List ScN}, ChR i nu c c' → ∀ {n : ByteArray} {b : Bnd}, n ≠ nu → findC fs c n = some b → renB i b = false → findC fs' c' n = some b
  | _, _, .nil, n, b, _, h, _ => by rw [findC] at h ⊢; rw [hl]; exact h
  | _, _, .cons (s := s) (s' := s') h1 h2, n, b, hn, h, hb => by
    rw [findC] at h ⊢
    rw [h1.ents]
    rcases he : entB s.ents n with _ | d
    · rw [he] at h
      rw [ent_none _ hn he]
      exact find_other hl h2 hn h hb
    · rw [he] at h
      obtain rfl := Option.some.inj h
      rw [ent_other _ hn (fun c hc => by rw [he] at hc; cases hc; exact hb), he]
theorem find_to {fs fs' : FileN} {i : Nat} {nu : ByteArray} {b : Bnd} (hb : renB i b = true) (hfk : ∀ n d, fs.look n = some d → renB i d = false) : ∀ {c c' : List ScN}, ChR i nu c c' → (∀ s ∈ c, OneB i b s) → ∀ {n : ByteArray}, findC fs c n = some b → findC fs' c' nu = some b
  | _, _, .nil, _, n, h => by
    rw [findC] at h
    have := hfk n b h
    rw [hb] at this; cases this
  | _, _, .cons (s := s) (s' := s') h1 h2, ho, n, h => by
    rw [findC] at h ⊢
    rw [h1.ents]
    rcases hx : entB (s.ents.map (renE i nu)) nu with _ | d
    · rcases he : entB s.ents n with _ | c
      · rw [he] at h
        exact find_to hb hfk h2 (fun x hx => ho x (List.mem_cons_of_mem _ hx)) h
      · rw [he] at h
        obtain rfl := Option.some.inj h
        obtain ⟨d, hd⟩ := ent_has (nu := nu) s.ents (ent_in he) hb
        rw [hx] at hd; cases hd
    · obtain ⟨k1, m, k2⟩ := ent_to s.ents h1.away d hx
      have := ho s List.mem_cons_self (m, d) k2 k1
      simp only at this
      rw [this]
/-- what is found so far, named anew -/
structure ResR (i : Nat) (nu : ByteArray) (r r' : ResN) : Prop where
  out : r'.out = r.out
  fault : r'.fault = r.fault
  slots : ∀ j : Nat, r'.slots[j]? = (r.slots[j]?).map fun x => if j = i then renSl nu x else x
theorem ResR.len {i : Nat} {nu : ByteArray} {r r' : ResN} (h : ResR i nu r r') : r'.slots.length = r.slots.length := by
  have h1 := h.slots r.slots.length
  have h2 := h.slots r'.slots.length
  rw [List.getElem?_eq_none (Nat.le_refl r.slots.length), Option.map_none, List.getElem?_eq_none_iff] at h1
  rw [List.getElem?_eq_none (Nat.le_refl r'.slots.length)] at h2
  have h3 := Option.map_eq_none_iff.1 h2.symm
  rw [List.getElem?_eq_none_iff] at h3
  omega
/-- the names that have a slot, named anew -/
def TkR (i : Nat) (nu : ByteArray) (r : ResN) (s s' : ScN) : Prop := (∀ q ∈ s.taken, q ≠ nu) ∧ ∀ q ∈ s'.taken, q ∈ s.taken ∨ (q = nu ∧ i < r.slots.length)
theorem TkR.new (i : Nat) (nu : ByteArray) (r : ResN) : TkR i nu r ScN.new ScN.new := ⟨(fun q h => by cases h), (fun q h => by cases h)⟩
theorem TkR.more {i : Nat} {nu : ByteArray} {r r1 : ResN} {s s' : ScN} (h : TkR i nu r s s') (hl : r.slots.length ≤ r1.slots.length) : TkR i nu r1 s s' := ⟨h.1, fun q hq => (h.2 q hq).imp id fun ⟨a, b⟩ => ⟨a, Nat.lt_of_lt_of_le b hl⟩⟩
theorem ResR.put {i : Nat} {nu : ByteArray} {r r' : ResN} (h : ResR i nu r r') (k : Nat) (b : Bnd) : ResR i nu (r.put k b) (r'.put k b) := ⟨by show r'.out.set k b = r.out.set k b; rw [h.out], h.fault, h.slots⟩
/-- the slot's name anew -/
def renS (i j : Nat) (nu : ByteArray) (x : SlU) : SlU := if j = i then renSl nu x else x
theorem renS_same (i j : Nat) (nu : ByteArray) (x : SlU) : (renS i j nu x).type = x.type ∧ (renS i j nu x).vol = x.vol ∧ (renS i j nu x).param = x.param ∧ (renS i j nu x).name = if j = i then nu else x.name := by
  unfold renS
  split <;> exact ⟨rfl, rfl, rfl, rfl⟩
theorem slot_ren {i : Nat} {nu : ByteArray} {r r' : ResN} {s s' : ScN} {x : SlU} {a : Int} (h : ResR i nu r r') (ht : TkR i nu r s s') (hx : x.name ≠ nu) (h0 : (slotR r s x a).fault.2 = 0) :
    ResR i nu (slotR r s x a) (slotR r' s' (renS i r.slots.length nu x) a) ∧ TkR i nu (slotR r s x a) (s.take x.name) (s'.take (renS i r.slots.length nu x).name) ∧ slotB r' (renS i r.slots.length nu x) = slotB r x := by
  obtain ⟨a1, a2, a3, a4⟩ := slotR_0 h0
  have hl := h.len
  obtain ⟨e1, _, _, e4⟩ := renS_same i r.slots.length nu x
  rw [List.any_eq_false] at a2
  have hany : (s'.taken.any fun q => decide (q = (renS i r.slots.length nu x).name)) = false := by
    rw [List.any_eq_false]
    intro q hq hd
    rw [decide_eq_true_eq, e4] at hd
    by_cases e : r.slots.length = i
    · rw [if_pos e] at hd
      rcases ht.2 q hq with h1 | ⟨_, h1⟩
      · exact ht.1 q h1 hd
      · omega
    · rw [if_neg e] at hd
      rcases ht.2 q hq with h1 | ⟨h1, _⟩
      · exact a2 q h1 (by rw [decide_eq_true_eq]; exact hd)
      · exact hx (hd.symm.trans h1)
  have hw : slotW r' s' (renS i r.slots.length nu x).name a = r' := by
    unfold slotW
    simp only [hany, Bool.false_eq_true, if_false]
    rw [if_neg (by omega)]
  rw [a4]
  refine ⟨⟨?_, ?_, fun j => ?_⟩, ⟨fun q hq => ?_, fun q hq => ?_⟩, ?_⟩
  · unfold slotR; rw [hw]; exact h.out
  · unfold slotR; rw [hw]; exact h.fault
  · unfold slotR
    rw [hw]
    show (r'.slots ++ [renS i r.slots.length nu x])[j]? = ((r.slots ++ [x])[j]?).map _
    rcases Nat.lt_trichotomy j r.slots.length with hj | hj | hj
    · rw [List.getElem?_append_left (by omega), List.getElem?_append_left hj]
      exact h.slots j
    · subst hj
      rw [List.getElem?_append_right (by omega), List.getElem?_append_right (Nat.le_refl _), hl, Nat.sub_self]
      rfl
    · rw [List.getElem?_eq_none (by simp; omega), List.getElem?_eq_none (by simp; omega)]
      rfl
  · rcases List.mem_cons.1 hq with e | hq
    · rw [e]; exact hx
    · exact ht.1 q hq
  · show q ∈ x.name :: s.taken ∨ _
    rw [List.mem_cons]
    rcases List.mem_cons.1 hq with e | hq
    · rw [e4] at e
      by_cases e2 : r.slots.length = i
      · rw [if_pos e2] at e
        exact .inr ⟨e, by simp; omega⟩
      · rw [if_neg e2] at e
        exact .inl (.inl e)
    · rcases ht.2 q hq with h1 | ⟨h1, h2⟩
      · exact .inl (.inr h1)
      · exact .inr ⟨h1, by simp; omega⟩
  · unfold slotB
    rw [hl, e1]
/-- all of a scope's entries are slots, none has the new name -/
def ScAll (nu : ByteArray) (sl : List SlU) (s : ScN) : Prop := ∀ q ∈ s.ents, q.1 ≠ nu ∧ q.2.kind = 3 ∧ SlotOk sl q.2 q.1
theorem ScAll.more {nu : ByteArray} {sl : List SlU} {s : ScN} (h : ScAll nu sl s) (ex : List SlU) : ScAll nu (sl ++ ex) s := fun q hq => ⟨(h q hq).1, (h q hq).2.1, (h q hq).2.2.more ex⟩
theorem ScAll.ok {nu : ByteArray} {sl : List SlU} {s : ScN} (h : ScAll nu sl s) : ScOk sl s := fun n b hb => (h (n, b) (ent_in hb)).2
theorem scAll_new (nu : ByteArray) (sl : List SlU) : ScAll nu sl ScN.new := fun q h => by cases h
theorem SlotOk.one {sl : List SlU} {b c : Bnd} {n m : ByteArray} {i : Nat} (hb : SlotOk sl b n) (hc : SlotOk sl c m) (h1 : renB i b = true) (h2 : renB i c = true) : b = c := by
  unfold renB at h1 h2
  rw [Bool.and_eq_true, decide_eq_true_eq, decide_eq_true_eq] at h1 h2
  obtain ⟨_, x, x1, _, x3⟩ := hb
  obtain ⟨_, y, y1, _, y3⟩ := hc
  rw [h1.2] at x1
  rw [h2.2, x1] at y1
  obtain rfl := Option.some.inj y1
  obtain ⟨bk, bi, bt⟩ := b
  obtain ⟨ck, ci, ct⟩ := c
  simp only at *
  rw [h1.1, h2.1, h1.2, h2.2, ← x3, ← y3]
/-- a name's meaning, where it is a slot of the scopes, is all scopes' -/
theorem find_slot {fs : FileN} {sl : List SlU} {nu : ByteArray} {i : Nat} {c : List ScN} {n : ByteArray} {b : Bnd} (hok : FileOk fs) (ha : ∀ s ∈ c, ScAll nu sl s) (h : findC fs c n = some b) (hb : renB i b = true) : ∀ s ∈ c, OneB i b s := fun s hs q hq hr => by
  have h1 := findC_ok hok (fun s hs => (ha s hs).ok) h
  have h3 : b.kind = 3 := by unfold renB at hb; rw [Bool.and_eq_true, decide_eq_true_eq] at hb; exact hb.1
  rcases h1 with ⟨_, h1⟩ | ⟨h1, _⟩
  · exact (ha s hs q hq).2.2.one h1 hr hb
  · exact absurd h3 h1
/-- what is so while a function is gone over twice -/
structure Sim (i : Nat) (nu : ByteArray) (r r' : ResN) (up up' : List ScN) (s s' : ScN) : Prop where
  res : ResR i nu r r'
  ch : ChR i nu up up'
  sc : ScR i nu s s'
  tk : TkR i nu r s s'
  all : ∀ x ∈ s :: up, ScAll nu r.slots x
/-- what a place's visit gives, gone over twice -/
def VisR (t : List Nd) (fr : List Nat) (fs fs' : FileN) (i : Nat) (nu : ByteArray) (o : List Bnd) (k : Nat) : Prop := ∀ (up up' : List ScN) (s s' : ScN) (own : Bool) (r r' : ResN), r.out.length = t.length → Sim i nu r r' up up' s s' → (visitN t fr fs k up s own r).1.fault.2 = 0 → (∀ j, fr.getD k 0 ≤ j → j ≤ k → o.getD j bnd0 = (visitN t fr fs k up s own r).1.out.getD j bnd0) →
  Sim i nu (visitN t fr fs k up s own r).1 (visitN (renT i nu o t) fr fs' k up' s' own r').1 up up' (visitN t fr fs k up s own r).2 (visitN (renT i nu o t) fr fs' k up' s' own r').2
theorem getD_of {α : Type} {l m : List α} {d : α} {j : Nat} (h : l[j]? = m[j]?) : l.getD j d = m.getD j d := by rw [List.getD_eq_getElem?_getD, List.getD_eq_getElem?_getD, h]
theorem Sim.ok {i : Nat} {nu : ByteArray} {r r' : ResN} {up up' : List ScN} {s s' : ScN} (h : Sim i nu r r' up up' s s') : ∀ x ∈ s :: up, ScOk r.slots x := fun x hx => (h.all x hx).ok
theorem visits_ren {t : List Nd} {fr : List Nat} {fs fs' : FileN} {i : Nat} {nu : ByteArray} {o : List Bnd} (hb : beginsN t = some fr) (hok : FileOk fs) : ∀ (n e : Nat), Back fr n e → e ≤ t.length → (∀ p, p < e → VisR t fr fs fs' i nu o p) →
    ∀ (up up' : List ScN) (s s' : ScN) (r r' : ResN), r.out.length = t.length → Sim i nu r r' up up' s s' → (visitsN t fr fs (partsE fr n e) up s r).1.fault.2 = 0 → (∀ j, startE fr n e ≤ j → j < e → o.getD j bnd0 = (visitsN t fr fs (partsE fr n e) up s r).1.out.getD j bnd0) →
    Sim i nu (visitsN t fr fs (partsE fr n e) up s r).1 (visitsN (renT i nu o t) fr fs' (partsE fr n e) up' s' r').1 up up' (visitsN t fr fs (partsE fr n e) up s r).2 (visitsN (renT i nu o t) fr fs' (partsE fr n e) up' s' r').2
  | 0, e, _, _, _, up, up', s, s', r, r', _, h, _, _ => h
  | n + 1, e, ⟨h1, h2, h3⟩, he, ih, up, up', s, s', r, r', hl, h, h0, hag => by
    have hf := formed_of hb
    rw [partsE, visitsN_append] at h0 hag ⊢
    rw [visitsN_append]
    rw [startE] at hag
    have hrec := visits_ren hb hok n _ h3 (by omega) (fun p hp => ih p (by omega)) up up' s s' r r' hl h
    have hcov := visits_cov (fs := fs) hf n _ h3 (fun p hp up s r => visit_cov hb hok p (by omega) up s false r) up s r h.ok
    generalize visitsN t fr fs (partsE fr n (fr.getD (e - 1) 0)) up s r = q at *
    generalize visitsN (renT i nu o t) fr fs' (partsE fr n (fr.getD (e - 1) 0)) up' s' r' = q' at *
    rw [visitsN, visitsN] at h0 hag ⊢
    rw [visitsN, visitsN]
    have hq0 : q.1.fault.2 = 0 := by
      by_cases hq : q.1.fault.2 = 0
      · exact hq
      · rw [visitN_fault hf _ _ _ _ hq] at h0
        exact absurd h0 hq
    obtain ⟨c1, c2, c3⟩ := hcov hq0
    have hoks : ∀ x ∈ q.2 :: up, ScOk q.1.slots x := fun x hx => by
      rcases List.mem_cons.1 hx with rfl | hx
      · exact c3
      · exact c2.slots_ok (h.ok x (List.mem_cons_of_mem _ hx))
    obtain ⟨_, d2, _⟩ := visit_cov hb hok (e - 1) (by omega) up q.2 false q.1 hoks h0
    have hs := (back_sum h3).1
    have hsim := hrec hq0 fun j j1 j2 => by
      rw [hag j j1 (by omega)]
      exact getD_of (d2.far j (.inl j2))
    exact ih (e - 1) (by omega) up up' q.2 q'.2 false q.1 q'.1 (c2.len.trans hl) hsim h0 fun j j1 j2 => hag j (by omega) (by omega)
theorem renNd_of {i : Nat} {nu : ByteArray} {x : Nd} {b : Bnd} : declS (renNd i nu x b) = if renB i b = true then renSl nu (declS x) else declS x := by
  unfold renNd
  split <;> rfl
theorem visit_ren {t : List Nd} {fr : List Nat} {fs fs' : FileN} {i : Nat} {nu : ByteArray} {o : List Bnd} (hb : beginsN t = some fr) (hokF : FileOk fs) (hlk : ∀ n, fs'.look n = fs.look n) (hto : ∀ k, k < t.length → (t.getD k ndU0).kind = 3 ∨ (t.getD k ndU0).kind = 22 → (t.getD k ndU0).text ≠ nu) (k : Nat) : k < t.length → VisR t fr fs fs' i nu o k := by
  have hf := formed_of hb
  have hf' : Formed (renT i nu o t) fr := formed_of (by rw [renT_begins]; exact hb)
  induction k using Nat.strongRecOn with
  | ind k ih =>
    intro hk up up' s s' own r r' hol h h0 hag
    have hx := List.getElem?_eq_getElem hk
    obtain ⟨_, h2, _⟩ := hf.node k _ hx
    have h4 := start_of hb hx
    have hsum := back_sum h2
    have hvs := visits_ren (fs' := fs') (i := i) (nu := nu) (o := o) hb hokF t[k].n.toNat k h2 (by omega) (fun p hp => ih p hp (by omega))
    have hcv := visits_cov (fs := fs) hf t[k].n.toNat k h2 (fun p hp up s r => visit_cov hb hokF p (by omega) up s false r)
    rw [← partsAt_is hx, h4] at hvs hcv
    rw [h4] at hsum
    have hxt := hto k hk
    have hr0 : r.fault.2 = 0 := by
      by_cases hr : r.fault.2 = 0
      · exact hr
      · rw [visitN_fault hf _ _ _ _ hr] at h0
        exact absurd h0 hr
    have hr0' : r'.fault.2 = 0 := by rw [h.res.fault]; exact hr0
    have hg := renT_getD i nu o t hk
    obtain ⟨s1, s2, s3, s4, s5⟩ := renNd_same i nu (t.getD k ndU0) (o.getD k bnd0)
    have hdec := renNd_of (i := i) (nu := nu) (x := t.getD k ndU0) (b := o.getD k bnd0)
    rw [visitN_eq hf] at h0 hag ⊢
    rw [visitN_eq hf', hg, renT_parts]
    rw [if_neg (show ¬ r.fault.2 ≠ 0 by simp [hr0])] at h0 hag ⊢
    rw [if_neg (show ¬ r'.fault.2 ≠ 0 by simp [hr0']), s1]
    by_cases k22 : (t.getD k ndU0).kind = 22
    · rw [if_pos k22] at h0 hag ⊢
      rw [if_pos k22]
      simp only at h0 hag ⊢
      have hxn : (declS (t.getD k ndU0)).name ≠ nu := hxt (.inr k22)
      have hr10 : (slotR r s (declS (t.getD k ndU0)) (t.getD k ndU0).at_).fault.2 = 0 := by
        by_cases h' : (slotR r s (declS (t.getD k ndU0)) (t.getD k ndU0).at_).fault.2 = 0
        · exact h'
        · rw [visitsN_fault hf _ _ _ h'] at h0
          exact absurd h0 h'
      obtain ⟨_, _, _, e1⟩ := slotR_0 hr10
      obtain ⟨b1, b2, b3⟩ := slot_ren h.res h.tk hxn hr10
      have hok1 : o.getD k bnd0 = slotB r (declS (t.getD k ndU0)) := by
        have hl1 : (slotR r s (declS (t.getD k ndU0)) (t.getD k ndU0).at_).out.length = t.length := by rw [e1]; exact hol
        rw [hag k (by omega) (Nat.le_refl _)]
        show (List.set _ k _).getD k bnd0 = _
        have hl2 := (grow_ns (fr := fr) (fs := fs) (t := t) (partsAt t fr k) up (s.take (t.getD k ndU0).text) (slotR r s (declS (t.getD k ndU0)) (t.getD k ndU0).at_)).2.2.2.1
        rw [List.getD_eq_getElem?_getD, List.getElem?_set_self (by rw [hl2, hl1]; exact hk)]
        rfl
      have hrb : renB i (slotB r (declS (t.getD k ndU0))) = decide (r.slots.length = i) := by
        unfold renB slotB
        simp only [decide_true, Bool.true_and, decide_eq_decide]
        omega
      rw [hok1, hrb] at hdec
      rw [hok1]
      have hdec' : declS (renNd i nu (t.getD k ndU0) (slotB r (declS (t.getD k ndU0)))) = renS i r.slots.length nu (declS (t.getD k ndU0)) := by
        rw [hok1] at *
        rw [hdec]
        unfold renS
        simp only [decide_eq_true_eq]
      have htx : (renNd i nu (t.getD k ndU0) (slotB r (declS (t.getD k ndU0)))).text = (renS i r.slots.length nu (declS (t.getD k ndU0))).name := by
        rw [← hdec']; rfl
      have hat : (renNd i nu (t.getD k ndU0) (slotB r (declS (t.getD k ndU0)))).at_ = (t.getD k ndU0).at_ := (renNd_same i nu _ _).2.2.1
      rw [hdec', htx, hat, b3]
      have hsl1 : (slotR r s (declS (t.getD k ndU0)) (t.getD k ndU0).at_).slots = r.slots ++ [declS (t.getD k ndU0)] := by rw [e1]
      have hsim1 : Sim i nu (slotR r s (declS (t.getD k ndU0)) (t.getD k ndU0).at_) (slotR r' s' (renS i r.slots.length nu (declS (t.getD k ndU0))) (t.getD k ndU0).at_) up up' (s.take (t.getD k ndU0).text) (s'.take (renS i r.slots.length nu (declS (t.getD k ndU0))).name) := by
        refine ⟨b1, h.ch, ⟨h.sc.ents, h.sc.away⟩, b2, fun x hm => ?_⟩
        rw [hsl1]
        rcases List.mem_cons.1 hm with rfl | hm
        · exact (show ScAll nu (r.slots ++ _) s from (h.all s List.mem_cons_self).more _)
        · exact (h.all x (List.mem_cons_of_mem _ hm)).more _
      obtain ⟨_, c2, _⟩ := hcv up (s.take (t.getD k ndU0).text) (slotR r s (declS (t.getD k ndU0)) (t.getD k ndU0).at_) hsim1.ok h0
      have hfin := hvs up up' _ _ _ _ (by rw [e1]; exact hol) hsim1 h0 fun j j1 j2 => by
        rw [hag j j1 (by omega)]
        show (List.set _ k _).getD j bnd0 = _
        rw [List.getD_eq_getElem?_getD, List.getElem?_set_ne (by omega), ← List.getD_eq_getElem?_getD]
      generalize visitsN t fr fs (partsAt t fr k) up (s.take (t.getD k ndU0).text) (slotR r s (declS (t.getD k ndU0)) (t.getD k ndU0).at_) = q at *
      generalize visitsN (renT i nu o t) fr fs' (partsAt t fr k) up' (s'.take (renS i r.slots.length nu (declS (t.getD k ndU0))).name) (slotR r' s' (renS i r.slots.length nu (declS (t.getD k ndU0))) (t.getD k ndU0).at_) = q' at *
      have hslot : SlotOk q.1.slots (slotB r (declS (t.getD k ndU0))) (t.getD k ndU0).text := by
        obtain ⟨ex, ee, _⟩ := c2.slots
        rw [ee, hsl1]
        refine SlotOk.more ⟨by unfold slotB; simp, declS (t.getD k ndU0), ?_, rfl, rfl⟩ ex
        unfold slotB
        simp
      refine ⟨hfin.res.put k _, hfin.ch, ⟨?_, fun x hm => ?_⟩, hfin.tk, fun x hm => ?_⟩
      · show ((renS i r.slots.length nu (declS (t.getD k ndU0))).name, _) :: q'.2.ents = renE i nu _ :: q.2.ents.map (renE i nu)
        rw [hfin.sc.ents]
        congr 1
        unfold renE
        simp only [hrb]
        unfold renS
        simp only [decide_eq_true_eq]
        split <;> rfl
      · rcases List.mem_cons.1 hm with rfl | hm
        · exact hxn
        · exact hfin.sc.away x hm
      · show ScAll nu q.1.slots x
        rcases List.mem_cons.1 hm with rfl | hm
        · intro y hy
          rcases List.mem_cons.1 hy with rfl | hy
          · exact ⟨hxn, rfl, hslot⟩
          · exact hfin.all q.2 List.mem_cons_self y hy
        · exact hfin.all x (List.mem_cons_of_mem _ hm)
    · rw [if_neg k22] at h0 hag ⊢
      rw [if_neg k22]
      have hopen : opensN (renNd i nu (t.getD k ndU0) (o.getD k bnd0)) own = opensN (t.getD k ndU0) own := by unfold opensN; rw [s1]
      rw [hopen]
      have key : ∀ (up1 up1' : List ScN) (s1 s1' : ScN) (r2 : ResN), r2 = nameR fs (s :: up) (t.getD k ndU0) k r → (visitsN t fr fs (partsAt t fr k) up1 s1 r2).1.fault.2 = 0 → (∀ x ∈ s1 :: up1, ScOk r.slots x) → o.getD k bnd0 = (visitsN t fr fs (partsAt t fr k) up1 s1 r2).1.out.getD k bnd0 →
          ResR i nu r2 (nameR fs' (s' :: up') (renNd i nu (t.getD k ndU0) (o.getD k bnd0)) k r') ∧ r2.slots = r.slots ∧ r2.out.length = t.length := by
        intro up1 up1' s1' s1'' r2 hr2 h0' hoks hok
        have hr20 : r2.fault.2 = 0 := by
          by_cases h' : r2.fault.2 = 0
          · exact h'
          · rw [visitsN_fault hf _ _ _ h'] at h0'
            exact absurd h0' h'
        rcases nameR_0 (by rw [← hr2]; exact hr20) hr0 with ⟨e, hne⟩ | ⟨b, hk3, hfc, e⟩
        · rw [e] at hr2
          subst hr2
          unfold nameR
          rw [if_neg (by rw [s1]; exact hne)]
          exact ⟨h.res, rfl, hol⟩
        · rw [e] at hr2
          subst hr2
          have hol2 : (r.put k b).out.length = t.length := by show (r.out.set k b).length = _; rw [List.length_set]; exact hol
          obtain ⟨_, c2, _⟩ := hcv up1 s1' (r.put k b) hoks h0'
          have hokb : o.getD k bnd0 = b := by
            rw [hok, getD_of (c2.far k (.inr (Nat.le_refl _)))]
            show (r.out.set k b).getD k bnd0 = b
            rw [List.getD_eq_getElem?_getD, List.getElem?_set_self (by omega)]
            rfl
          refine ⟨?_, rfl, hol2⟩
          have hf3 : findC fs' (s' :: up') (renNd i nu (t.getD k ndU0) (o.getD k bnd0)).text = some b := by
            rw [hokb]
            unfold renNd
            by_cases hrb : renB i b = true
            · rw [if_pos hrb]
              refine find_to hrb (fun n d hd => ?_) (.cons h.sc h.ch) (find_slot hokF h.all hfc hrb) hfc
              unfold renB
              have := look_kind hokF hd
              rw [Bool.and_eq_false_iff, decide_eq_false_iff_not]
              left
              omega
            · rw [if_neg hrb]
              exact find_other hlk (.cons h.sc h.ch) (hxt (.inl hk3)) hfc (by simpa using hrb)
          unfold nameR
          rw [if_pos (by rw [s1]; exact hk3), hf3]
          exact h.res.put k b
      by_cases hop : opensN (t.getD k ndU0) own = true
      · rw [if_pos hop] at h0 hag ⊢
        rw [if_pos hop]
        simp only at h0 hag ⊢
        have hoks : ∀ x ∈ ScN.new :: s :: up, ScOk r.slots x := fun x hm => by
          rcases List.mem_cons.1 hm with rfl | hm
          · exact scOk_new _
          · exact h.ok x hm
        obtain ⟨k1, k2, k3⟩ := key (s :: up) (s' :: up') ScN.new ScN.new _ rfl h0 hoks (hag k (by omega) (Nat.le_refl _))
        have hnew : ScR i nu ScN.new ScN.new := ⟨rfl, fun q h => by cases h⟩
        have hall : ∀ x ∈ ScN.new :: s :: up, ScAll nu (nameR fs (s :: up) (t.getD k ndU0) k r).slots x := fun x hm => by
          rw [k2]
          rcases List.mem_cons.1 hm with rfl | hm
          · exact scAll_new _ _
          · exact h.all x hm
        have hfin := hvs (s :: up) (s' :: up') ScN.new ScN.new _ _ k3 ⟨k1, .cons h.sc h.ch, hnew, TkR.new _ _ _, hall⟩ h0 fun j j1 j2 => hag j j1 (by omega)
        have hgr := (grow_ns (fr := fr) (fs := fs) (t := t) (partsAt t fr k) (s :: up) ScN.new (nameR fs (s :: up) (t.getD k ndU0) k r)).1
        rw [k2] at hgr
        exact ⟨hfin.res, h.ch, h.sc, h.tk.more hgr, fun x hm => hfin.all x (List.mem_cons_of_mem _ hm)⟩
      · rw [if_neg hop] at h0 hag ⊢
        rw [if_neg hop]
        obtain ⟨k1, k2, k3⟩ := key up up' s s' _ rfl h0 h.ok (hag k (by omega) (Nat.le_refl _))
        exact hvs up up' s s' _ _ k3 ⟨k1, h.ch, h.sc, h.tk.more (by rw [k2]; exact Nat.le_refl _), fun x hm => by rw [k2]; exact h.all x hm⟩ h0 fun j j1 j2 => hag j j1 (by omega)
end Go.Proofs.YtbbaooeioogijaaDoor

