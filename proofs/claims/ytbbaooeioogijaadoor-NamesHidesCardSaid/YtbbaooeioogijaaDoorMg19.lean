/- What the names of a function stand for. Plain: nothing of the program. · Going over a tree: each place once, a whole ahead of its parts. Plain: nothing of the program. · What going over a function finds: each name has a meaning, each declaration a slot. Plain: nothing of the program. -/
import Derived.Test.YtbbaooeioogijaaDoorMg18
import Derived.Test.YtbbaooeioogijaaDoorMg10
namespace Go.Proofs.YtbbaooeioogijaaDoor

def ndU0 : Nd := ⟨0, 0, 0, 0, ⟨#[]⟩, ⟨#[]⟩⟩
structure SlU where
  name : ByteArray
  type : ByteArray
  vol : Bool
  param : Bool
/-- a scope: its names, the latest first; those that have a slot -/
structure ScN where
  ents : List (ByteArray × Bnd)
  taken : List ByteArray
/-- what is found so far -/
structure ResN where
  slots : List SlU
  out : List Bnd
  fault : Int × Int
def ScN.new : ScN := ⟨[], []⟩
def ResN.wrong (r : ResN) (at_ c : Int) : ResN := if r.fault.2 = 0 then ⟨r.slots, r.out, (at_, c)⟩ else r
def ResN.put (r : ResN) (k : Nat) (b : Bnd) : ResN := ⟨r.slots, r.out.set k b, r.fault⟩
/-- what a name stands for: scopes, the innermost first, within a file -/
def findC (fs : FileN) : List ScN → ByteArray → Option Bnd
  | [], n => fs.look n
  | s :: up, n => match entB s.ents n with
    | some b => some b
    | none => findC fs up n
/-- what is wrong with a slot more -/
def slotW (r : ResN) (s : ScN) (n : ByteArray) (at_ : Int) : ResN :=
  let r1 := if (s.taken.any fun q => decide (q = n)) = true then r.wrong at_ 6 else r
  if 256 ≤ r1.slots.length then r1.wrong at_ 3 else r1
def slotR (r : ResN) (s : ScN) (x : SlU) (at_ : Int) : ResN := ⟨(slotW r s x.name at_).slots ++ [x], (slotW r s x.name at_).out, (slotW r s x.name at_).fault⟩
def slotB (r : ResN) (x : SlU) : Bnd := ⟨3, (r.slots.length : Int), x.type⟩
def ScN.take (s : ScN) (n : ByteArray) : ScN := ⟨s.ents, n :: s.taken⟩
def ScN.bind (s : ScN) (n : ByteArray) (b : Bnd) : ScN := ⟨(n, b) :: s.ents, s.taken⟩
theorem wrong_slots (r : ResN) (a c : Int) : (r.wrong a c).slots = r.slots ∧ (r.wrong a c).out = r.out := by
  unfold ResN.wrong
  split <;> exact ⟨rfl, rfl⟩
theorem slotW_slots (r : ResN) (s : ScN) (n : ByteArray) (a : Int) : (slotW r s n a).slots = r.slots ∧ (slotW r s n a).out = r.out := by
  unfold slotW
  simp only
  split <;> split <;> simp [wrong_slots]
/-- the slot of a declaration -/
def declS (x : Nd) : SlU := ⟨x.text, x.type, decide (x.int = 1), false⟩
/-- a name, if it is one -/
def nameR (fs : FileN) (c : List ScN) (x : Nd) (k : Nat) (r : ResN) : ResN := if x.kind = 3 then (match findC fs c x.text with
    | some b => r.put k b
    | none => (r.wrong x.at_ 130).put k bnd0) else r
/-- is a new scope there? -/
def opensN (x : Nd) (own : Bool) : Bool := (decide (x.kind = 21) && !own) || decide (x.kind = 26)
mutual
/-- the node at a place, within scopes -/
def visitF (t : List Nd) (fr : List Nat) (fs : FileN) : Nat → Nat → List ScN → ScN → Bool → ResN → ResN × ScN
  | 0, _, _, s, _, r => (r, s)
  | m + 1, k, up, s, own, r =>
    if r.fault.2 ≠ 0 then (r, s)
    else if (t.getD k ndU0).kind = 22 then
      let q := visitsF t fr fs m (partsAt t fr k) up (s.take (t.getD k ndU0).text) (slotR r s (declS (t.getD k ndU0)) (t.getD k ndU0).at_)
      (q.1.put k (slotB r (declS (t.getD k ndU0))), q.2.bind (t.getD k ndU0).text (slotB r (declS (t.getD k ndU0))))
    else if opensN (t.getD k ndU0) own then ((visitsF t fr fs m (partsAt t fr k) (s :: up) ScN.new (nameR fs (s :: up) (t.getD k ndU0) k r)).1, s)
    else visitsF t fr fs m (partsAt t fr k) up s (nameR fs (s :: up) (t.getD k ndU0) k r)
def visitsF (t : List Nd) (fr : List Nat) (fs : FileN) : Nat → List Nat → List ScN → ScN → ResN → ResN × ScN
  | _, [], _, s, r => (r, s)
  | m, p :: ps, up, s, r => visitsF t fr fs m ps up (visitF t fr fs m p up s false r).2 (visitF t fr fs m p up s false r).1
end
/-- the node at a place -/
def visitN (t : List Nd) (fr : List Nat) (fs : FileN) (k : Nat) (up : List ScN) (s : ScN) (own : Bool) (r : ResN) : ResN × ScN := visitF t fr fs (k + 1) k up s own r
def visitsN (t : List Nd) (fr : List Nat) (fs : FileN) : List Nat → List ScN → ScN → ResN → ResN × ScN
  | [], _, s, r => (r, s)
  | p :: ps, up, s, r => visitsN t fr fs ps up (visitN t fr fs p up s false r).2 (visitN t fr fs p up s false r).1
theorem visits_of {t : List Nd} {fr : List Nat} {fs : FileN} {m : Nat} (h : ∀ k, k < m → ∀ up s own r, visitF t fr fs m k up s own r = visitN t fr fs k up s own r) : ∀ (ps : List Nat), (∀ p ∈ ps, p < m) → ∀ up s r, visitsF t fr fs m ps up s r = visitsN t fr fs ps up s r
  | [], _, up, s, r => by rw [visitsF, visitsN]
  | p :: ps, hp, up, s, r => by
    rw [visitsF, visitsN, h p (hp p List.mem_cons_self), visits_of h ps fun q hq => hp q (List.mem_cons_of_mem _ hq)]
theorem visit_more {t : List Nd} {fr : List Nat} {fs : FileN} (hf : Formed t fr) : ∀ (m k : Nat), k < m → ∀ up s own r, visitF t fr fs m k up s own r = visitN t fr fs k up s own r := by
  intro m
  induction m using Nat.strongRecOn with
  | ind m ih =>
    intro k hk up s own r
    cases m with
    | zero => omega
    | succ m =>
      unfold visitN
      have hps : ∀ p ∈ partsAt t fr k, p < k := fun p hp => hf.parts_lt hp
      have h1 := fun up s r => visits_of (t := t) (fr := fr) (fs := fs) (m := m) (fun q hq => ih m (by omega) q hq) (partsAt t fr k) (fun p hp => by have := hps p hp; omega) up s r
      have h2 := fun up s r => visits_of (t := t) (fr := fr) (fs := fs) (m := k) (fun q hq => ih k (by omega) q hq) (partsAt t fr k) hps up s r
      rw [visitF, visitF]
      simp only [h1, h2]
theorem visitN_eq {t : List Nd} {fr : List Nat} {fs : FileN} (hf : Formed t fr) (k : Nat) (up : List ScN) (s : ScN) (own : Bool) (r : ResN) : visitN t fr fs k up s own r =
    if r.fault.2 ≠ 0 then (r, s)
    else if (t.getD k ndU0).kind = 22 then
      let q := visitsN t fr fs (partsAt t fr k) up (s.take (t.getD k ndU0).text) (slotR r s (declS (t.getD k ndU0)) (t.getD k ndU0).at_)
      (q.1.put k (slotB r (declS (t.getD k ndU0))), q.2.bind (t.getD k ndU0).text (slotB r (declS (t.getD k ndU0))))
    else if opensN (t.getD k ndU0) own then ((visitsN t fr fs (partsAt t fr k) (s :: up) ScN.new (nameR fs (s :: up) (t.getD k ndU0) k r)).1, s)
    else visitsN t fr fs (partsAt t fr k) up s (nameR fs (s :: up) (t.getD k ndU0) k r) := by
  have hps : ∀ p ∈ partsAt t fr k, p < k := fun p hp => hf.parts_lt hp
  have h2 := fun up s r => visits_of (t := t) (fr := fr) (fs := fs) (m := k) (fun q hq => visit_more hf k q hq) (partsAt t fr k) hps up s r
  rw [visitN, visitF]
  simp only [h2]
/-- a function's parameters: their slots, their names -/
def parmsR : List VrU → Int → ResN → ScN → ResN × ScN
  | [], _, r, s => (r, s)
  | p :: ps, at_, r, s => parmsR ps at_ (slotR r s ⟨p.name, p.type, p.vol, true⟩ at_) ((s.take p.name).bind p.name (slotB r ⟨p.name, p.type, p.vol, true⟩))
/-- what goes over a function finds -/
def goneR (fs : FileN) (f : FnU) : ResN :=
  let q := parmsR f.params f.at_ ⟨[], List.replicate f.body.length bnd0, (0, 0)⟩ ScN.new
  (visitN f.body ((beginsN f.body).getD []) fs (f.body.length - 1) [] q.2 true q.1).1
/-- the function of a name -/
def bodyOf (fs : FileN) (n : ByteArray) : Option FnU := match fs.look n with
  | none => none
  | some b => if b.kind ≠ 2 ∨ (fs.funcs.getD b.idx.toNat fnU0).body = [] then none else some (fs.funcs.getD b.idx.toNat fnU0)
/-- what a function's names stand for: the fault, or what is found -/
def resolveN (u : UnU) (n : ByteArray) : (Int × Int) ⊕ (ResN × FnU × FileN) := match fileN u with
  | .inl f => .inl f
  | .inr fs => match bodyOf fs n with
    | none => .inl (0, 4)
    | some f => if (goneR fs f).fault.2 ≠ 0 then .inl (goneR fs f).fault else .inr (goneR fs f, f, fs)
end Go.Proofs.YtbbaooeioogijaaDoor
namespace Go.Proofs.YtbbaooeioogijaaDoor

/-- where the first of n parts begins, the last of which ends ahead of e -/
def startE (fr : List Nat) : Nat → Nat → Nat
  | 0, e => e
  | n + 1, e => startE fr n (fr.getD (e - 1) 0)
theorem Ends.start {fr : List Nat} : ∀ {st : List Nat} {e n : Nat}, Ends fr st e → n ≤ st.length → startE fr n e = if 0 < n then st.getD (n - 1) 0 else e
  | _, _, 0, _, _ => rfl
  | [], _, n + 1, _, h => by simp at h
  | s :: st, e, n + 1, ⟨_, h2, h3⟩, h => by
    rw [startE, h2, Ends.start h3 (by simpa using h), if_pos (Nat.succ_pos n)]
    cases n with
    | zero => rfl
    | succ n => rw [if_pos (Nat.succ_pos n), Nat.add_sub_cancel, Nat.add_sub_cancel]; rfl
theorem begins_start : ∀ (l : List Nd) (pre : List Nat) (st : List Nat) {f st' : List Nat}, beginsF l pre.length st = some (f, st') → Ends pre st pre.length →
    ∀ (j : Nat) x, l[j]? = some x → startE (pre ++ f) x.n.toNat (pre.length + j) = (pre ++ f).getD (pre.length + j) 0
  | [], _, _, _, _, _, _ => fun j x hx => by simp at hx
  | x :: l, pre, st, f, st', h, he => by
    have hfull := begins_back (x :: l) pre st h he
    rw [beginsF] at h
    split at h
    · cases h
    · rename_i hn
      simp only [Option.map_eq_some_iff] at h
      obtain ⟨⟨g, st2⟩, hg, e⟩ := h
      obtain ⟨rfl, rfl⟩ := Prod.mk.inj e
      simp only at hg ⊢
      generalize ha : (if 0 < x.n then st.getD (x.n.toNat - 1) 0 else pre.length) = a at *
      have hle : x.n.toNat ≤ st.length := by omega
      have ha1 : a ≤ pre.length := by
        rw [← ha]
        split
        · exact Nat.le_of_lt (he.lt _ (by omega))
        · exact Nat.le_refl _
      have he2 : Ends (pre ++ [a]) (a :: st.drop x.n.toNat) (pre ++ [a]).length := by
        refine ⟨by simp; omega, by simp, ?_⟩
        by_cases h0 : 0 < x.n
        · rw [if_pos h0] at ha
          rw [← ha]
          exact (he.drop x.n.toNat (by omega) hle).app (by rw [ha]; exact ha1)
        · rw [if_neg h0] at ha
          have : x.n.toNat = 0 := by omega
          rw [this, ← ha]
          simpa using he.app (Nat.le_refl _)
      have hl1 : (pre ++ [a]).length = pre.length + 1 := by simp
      have h3 := begins_start l (pre ++ [a]) _ (by rw [hl1]; exact hg) he2
      have hap : pre ++ [a] ++ g = pre ++ a :: g := by simp
      rw [hap, hl1] at h3
      intro j y hy
      cases j with
      | zero =>
        obtain rfl := Option.some.inj hy
        have h4 := (he.app (g := a :: g) (Nat.le_refl _)).start (n := x.n.toNat) hle
        rw [Nat.add_zero, h4]
        have h5 : (pre ++ a :: g).getD pre.length 0 = a := by rw [List.getD_eq_getElem?_getD, List.getElem?_append_right (Nat.le_refl _), Nat.sub_self]; rfl
        rw [h5, ← ha]
        by_cases h0 : 0 < x.n
        · rw [if_pos (by omega), if_pos h0]
        · rw [if_neg (by omega), if_neg h0]
      | succ j =>
        have := h3 j y (by simpa using hy)
        rw [show pre.length + (j + 1) = pre.length + 1 + j by omega]
        exact this
theorem start_of {t : List Nd} {fr : List Nat} (h : beginsN t = some fr) {j : Nat} {x : Nd} (hx : t[j]? = some x) : startE fr x.n.toNat j = fr.getD j 0 := by
  unfold beginsN at h
  split at h
  · rename_i f s hb
    obtain rfl := Option.some.inj h
    have := begins_start t [] [] hb trivial j x hx
    simpa using this
  · cases h
/-- where all that waits begins -/
theorem begins_low : ∀ (l : List Nd) (i : Nat) (st : List Nat) {f st' : List Nat}, beginsF l i st = some (f, st') → (st ≠ [] → st.getLast? = some 0) → (st = [] → i = 0) → st' ≠ [] → st'.getLast? = some 0
  | [], i, st, f, st', h, h1, _, h3 => by
    rw [beginsF] at h
    obtain ⟨_, rfl⟩ := Prod.mk.inj (Option.some.inj h)
    exact h1 h3
  | x :: l, i, st, f, st', h, h1, h2, h3 => by
    rw [beginsF] at h
    split at h
    · cases h
    · rename_i hn
      simp only [Option.map_eq_some_iff] at h
      obtain ⟨⟨g, st2⟩, hg, e⟩ := h
      obtain ⟨_, rfl⟩ := Prod.mk.inj e
      refine begins_low l (i + 1) _ hg (fun _ => ?_) (fun h => by cases h) h3
      by_cases hs : st = []
      · subst hs
        have : x.n.toNat = 0 := by simp at hn; omega
        rw [this, if_neg (by simp at hn; omega), h2 rfl]
        rfl
      · have hl := h1 hs
        rcases Nat.lt_or_ge x.n.toNat st.length with h' | h'
        · have hd : st.drop x.n.toNat ≠ [] := by simp; omega
          rw [List.getLast?_cons_of_ne_nil hd, List.getLast?_drop, if_neg (by omega)]
          exact hl
        · have hd : st.drop x.n.toNat = [] := by simp; omega
          have hpos : 0 < st.length := List.length_pos_iff.2 hs
          rw [hd, if_pos (by omega)]
          rw [List.getLast?_eq_getElem?] at hl
          have e1 : x.n.toNat - 1 = st.length - 1 := by omega
          rw [List.getD_eq_getElem?_getD, e1, hl]
          rfl
/-- the whole, the last of all, begins at the beginning -/
theorem begins_ends {t : List Nd} {fr : List Nat} (h : beginsN t = some fr) : fr.getD (t.length - 1) 0 = 0 := by
  unfold beginsN at h
  split at h
  · rename_i f s hb
    obtain rfl := Option.some.inj h
    obtain ⟨_, h2, _⟩ := begins_back t [] [] hb trivial
    simp only [List.nil_append, List.length_nil, Nat.zero_add] at h2
    have h3 := begins_low t 0 [] hb (fun h => absurd rfl h) (fun _ => rfl) (by simp)
    simp at h3
    rw [h2.2.1, h3]
  · cases h
/-- so many nodes are in the parts -/
theorem back_sum {fr : List Nat} : ∀ {n e : Nat}, Back fr n e → startE fr n e ≤ e ∧ ((partsE fr n e).map fun p => p + 1 - fr.getD p 0).sum = e - startE fr n e
  | 0, e, _ => ⟨Nat.le_refl _, by simp [partsE, startE]⟩
  | n + 1, e, ⟨h1, h2, h3⟩ => by
    obtain ⟨a, b⟩ := back_sum h3
    refine ⟨by rw [startE]; omega, ?_⟩
    rw [partsE, List.map_append, List.sum_append, b, startE]
    simp only [List.map_cons, List.map_nil, List.sum_cons, List.sum_nil]
    omega

end Go.Proofs.YtbbaooeioogijaaDoor
namespace Go.Proofs.YtbbaooeioogijaaDoor

/-- a meaning of a name that is a slot -/
def SlotOk (sl : List SlU) (b : Bnd) (n : ByteArray) : Prop := 0 ≤ b.idx ∧ ∃ x, sl[b.idx.toNat]? = some x ∧ x.name = n ∧ x.type = b.type
def BndOk (fs : FileN) (sl : List SlU) (b : Bnd) (n : ByteArray) : Prop := (b.kind = 3 ∧ SlotOk sl b n) ∨ (b.kind ≠ 3 ∧ fs.look n = some b)
theorem SlotOk.more {sl : List SlU} {b : Bnd} {n : ByteArray} (h : SlotOk sl b n) (ex : List SlU) : SlotOk (sl ++ ex) b n := by
  obtain ⟨h0, x, h1, h2⟩ := h
  exact ⟨h0, x, by rw [List.getElem?_append_left (List.getElem?_eq_some_iff.1 h1).1]; exact h1, h2⟩
theorem BndOk.more {fs : FileN} {sl : List SlU} {b : Bnd} {n : ByteArray} (h : BndOk fs sl b n) (ex : List SlU) : BndOk fs (sl ++ ex) b n := h.imp (fun ⟨h1, h2⟩ => ⟨h1, h2.more ex⟩) id
/-- a scope's names are slots -/
def ScOk (sl : List SlU) (s : ScN) : Prop := ∀ n b, entB s.ents n = some b → b.kind = 3 ∧ SlotOk sl b n
theorem ScOk.more {sl : List SlU} {s : ScN} (h : ScOk sl s) (ex : List SlU) : ScOk (sl ++ ex) s := fun n b hb => ⟨(h n b hb).1, (h n b hb).2.more ex⟩
theorem scOk_new (sl : List SlU) : ScOk sl ScN.new := fun n b h => by cases h
theorem entB_cons (n : ByteArray) (b : Bnd) (L : List (ByteArray × Bnd)) (m : ByteArray) : entB ((n, b) :: L) m = if n = m then some b else entB L m := by
  unfold entB
  rw [List.find?_cons]
  by_cases e : n = m
  · simp [e]
  · simp [e]
theorem ScOk.bind {sl : List SlU} {s : ScN} (h : ScOk sl s) {n : ByteArray} {b : Bnd} (hb : b.kind = 3) (ho : SlotOk sl b n) : ScOk sl (s.bind n b) := fun m c hc => by
  unfold ScN.bind at hc
  rw [entB_cons] at hc
  split at hc
  · rename_i e
    obtain rfl := Option.some.inj hc
    subst e
    exact ⟨hb, ho⟩
  · exact h m c hc
theorem ScOk.take {sl : List SlU} {s : ScN} (h : ScOk sl s) (n : ByteArray) : ScOk sl (s.take n) := h
theorem findC_ok {fs : FileN} {sl : List SlU} (hf : FileOk fs) : ∀ {c : List ScN} {n : ByteArray} {b : Bnd}, (∀ s ∈ c, ScOk sl s) → findC fs c n = some b → BndOk fs sl b n
  | [], n, b, _, h => .inr ⟨fun e => by
      rw [findC] at h
      unfold FileN.look at h
      rcases he : entB fs.ents n with _ | d
      · rw [he] at h
        have := bltE_kind h
        omega
      · rw [he] at h
        obtain rfl := Option.some.inj h
        have := (hf.kinds n d he).1
        omega, h⟩
  | s :: up, n, b, hc, h => by
    rw [findC] at h
    rcases he : entB s.ents n with _ | d
    · rw [he] at h
      exact findC_ok hf (fun s' hs => hc s' (List.mem_cons_of_mem _ hs)) h
    · rw [he] at h
      obtain rfl := Option.some.inj h
      exact .inl (hc s List.mem_cons_self n d he)
theorem look_kind {fs : FileN} (hf : FileOk fs) {n : ByteArray} {b : Bnd} (h : fs.look n = some b) : b.kind = 1 ∨ b.kind = 2 ∨ b.kind = 4 := by
  unfold FileN.look at h
  rcases he : entB fs.ents n with _ | d
  · rw [he] at h
    exact .inr (.inr (bltE_kind h))
  · rw [he] at h
    obtain rfl := Option.some.inj h
    have := (hf.kinds n d he).1
    omega
theorem BndOk.kind {fs : FileN} (hf : FileOk fs) {sl : List SlU} {b : Bnd} {n : ByteArray} (h : BndOk fs sl b n) : b.kind ≠ 0 := by
  rcases h with ⟨h, _⟩ | ⟨_, h⟩
  · omega
  · have := look_kind hf h; omega
/-- how many declarations are there, from a place up to another one -/
def declsN (t : List Nd) (a b : Nat) : Nat := ((t.drop a).take (b - a)).countP fun x => decide (x.kind = 22)
theorem declsN_nil (t : List Nd) (a : Nat) : declsN t a a = 0 := by unfold declsN; simp
theorem declsN_join (t : List Nd) {a b c : Nat} (h1 : a ≤ b) (h2 : b ≤ c) : declsN t a b + declsN t b c = declsN t a c := by
  unfold declsN
  rw [show c - a = (b - a) + (c - b) by omega, List.take_add, List.countP_append, List.drop_drop, show a + (b - a) = b by omega]
theorem declsN_one {t : List Nd} {k : Nat} (h : k < t.length) : declsN t k (k + 1) = if (t.getD k ndU0).kind = 22 then 1 else 0 := by
  unfold declsN
  have e : t.getD k ndU0 = t[k] := by simp [List.getD, h]
  rw [show k + 1 - k = 1 by omega, List.drop_eq_getElem_cons h, List.take_succ_cons, List.take_zero, e]
  by_cases hk : t[k].kind = 22
  · simp [hk]
  · simp [hk]
/-- what is found between two places -/
structure Cov (fs : FileN) (t : List Nd) (a b : Nat) (r r' : ResN) : Prop where
  le : a ≤ b
  len : r'.out.length = r.out.length
  far : ∀ j, j < a ∨ b ≤ j → r'.out[j]? = r.out[j]?
  near : ∀ j, a ≤ j → j < b → j < r.out.length → if (t.getD j ndU0).kind = 3 ∨ (t.getD j ndU0).kind = 22 then ∃ c, r'.out[j]? = some c ∧ BndOk fs r'.slots c (t.getD j ndU0).text ∧ ((t.getD j ndU0).kind = 22 → c.kind = 3) else r'.out[j]? = r.out[j]?
  slots : ∃ ex, r'.slots = r.slots ++ ex ∧ ex.length = declsN t a b
theorem Cov.refl (fs : FileN) (t : List Nd) (a : Nat) (r : ResN) : Cov fs t a a r r := ⟨Nat.le_refl _, rfl, fun _ _ => rfl, fun j h1 h2 => by omega, [], by simp, by rw [declsN_nil]; rfl⟩
theorem Cov.trans {fs : FileN} {t : List Nd} {a b c : Nat} {r r1 r2 : ResN} (h : Cov fs t a b r r1) (g : Cov fs t b c r1 r2) : Cov fs t a c r r2 := by
  obtain ⟨ex, e1, l1⟩ := h.slots
  obtain ⟨ey, e2, l2⟩ := g.slots
  refine ⟨Nat.le_trans h.le g.le, g.len.trans h.len, fun j hj => ?_, fun j h1 h2 hl => ?_, ex ++ ey, by rw [e2, e1, List.append_assoc], by rw [List.length_append, l1, l2, declsN_join t h.le g.le]⟩
  · have := h.le
    have := g.le
    rw [g.far j (by omega), h.far j (by omega)]
  · rcases Nat.lt_or_ge j b with hb | hb
    · have hn := h.near j h1 hb hl
      have hg := g.far j (.inl hb)
      split
      · rename_i hk
        rw [if_pos hk] at hn
        obtain ⟨d, hd, ho, h3⟩ := hn
        exact ⟨d, hg.trans hd, by rw [e2]; exact ho.more ey, h3⟩
      · rename_i hk
        rw [if_neg hk] at hn
        exact hg.trans hn
    · have hn := g.near j hb h2 (by rw [h.len]; exact hl)
      split
      · rename_i hk
        rw [if_pos hk] at hn
        exact hn
      · rename_i hk
        rw [if_neg hk] at hn
        rw [hn]
        exact h.far j (.inr hb)
theorem visitsN_append (t : List Nd) (fr : List Nat) (fs : FileN) : ∀ (ps qs : List Nat) (up : List ScN) (s : ScN) (r : ResN), visitsN t fr fs (ps ++ qs) up s r = visitsN t fr fs qs up (visitsN t fr fs ps up s r).2 (visitsN t fr fs ps up s r).1
  | [], _, _, _, _ => rfl
  | p :: ps, qs, up, s, r => by rw [List.cons_append, visitsN, visitsN, visitsN_append]
theorem visitN_fault {t : List Nd} {fr : List Nat} {fs : FileN} (hf : Formed t fr) (k : Nat) (up : List ScN) (s : ScN) (own : Bool) {r : ResN} (h : r.fault.2 ≠ 0) : visitN t fr fs k up s own r = (r, s) := by
  rw [visitN_eq hf, if_pos h]
theorem visitsN_fault {t : List Nd} {fr : List Nat} {fs : FileN} (hf : Formed t fr) : ∀ (ps : List Nat) (up : List ScN) (s : ScN) {r : ResN}, r.fault.2 ≠ 0 → visitsN t fr fs ps up s r = (r, s)
  | [], _, _, _, _ => rfl
  | p :: ps, up, s, r, h => by rw [visitsN, visitN_fault hf p up s false h]; exact visitsN_fault hf ps up s h
theorem wrong_fault {r : ResN} {a c : Int} (hc : c ≠ 0) (h : (r.wrong a c).fault.2 = 0) : False := by
  unfold ResN.wrong at h
  split at h
  · exact hc h
  · rename_i h1; exact h1 h
theorem slotW_fault {r : ResN} {s : ScN} {n : ByteArray} {a : Int} (h : (slotW r s n a).fault.2 = 0) : (s.taken.any fun q => decide (q = n)) = false ∧ r.slots.length < 256 ∧ slotW r s n a = r := by
  unfold slotW at h ⊢
  simp only at h ⊢
  by_cases ht : (s.taken.any fun q => decide (q = n)) = true
  · rw [if_pos ht] at h
    split at h
    · exact absurd h (fun h => wrong_fault (by decide) h)
    · exact absurd h (fun h => wrong_fault (by decide) h)
  · rw [if_neg ht] at h ⊢
    split at h
    · exact absurd h (fun h => wrong_fault (by decide) h)
    · rename_i hl
      rw [if_neg hl]
      exact ⟨by simpa only [Bool.not_eq_true] using ht, by omega, rfl⟩
theorem slotR_0 {r : ResN} {s : ScN} {x : SlU} {a : Int} (h : (slotR r s x a).fault.2 = 0) : r.fault.2 = 0 ∧ (s.taken.any fun q => decide (q = x.name)) = false ∧ r.slots.length < 256 ∧ slotR r s x a = ⟨r.slots ++ [x], r.out, r.fault⟩ := by
  have h' : (slotW r s x.name a).fault.2 = 0 := h
  obtain ⟨h1, h2, h3⟩ := slotW_fault h'
  refine ⟨by rw [← h3]; exact h', h1, h2, ?_⟩
  unfold slotR
  rw [h3]
theorem nameR_0 {fs : FileN} {c : List ScN} {x : Nd} {k : Nat} {r : ResN} (h : (nameR fs c x k r).fault.2 = 0) (_hr : r.fault.2 = 0) : nameR fs c x k r = r ∧ x.kind ≠ 3 ∨ ∃ b, x.kind = 3 ∧ findC fs c x.text = some b ∧ nameR fs c x k r = r.put k b := by
  unfold nameR at h ⊢
  by_cases hk : x.kind = 3
  · rw [if_pos hk] at h ⊢
    rcases hc : findC fs c x.text with _ | b
    · rw [hc] at h
      exact absurd h (fun h => wrong_fault (a := x.at_) (c := 130) (by decide) h)
    · exact .inr ⟨b, hk, rfl, rfl⟩
  · rw [if_neg hk]
    exact .inl ⟨rfl, hk⟩
theorem Cov.slots_ok {fs : FileN} {t : List Nd} {a b : Nat} {r r' : ResN} (h : Cov fs t a b r r') {s : ScN} (hs : ScOk r.slots s) : ScOk r'.slots s := by
  obtain ⟨ex, e, _⟩ := h.slots
  rw [e]
  exact hs.more ex
/-- what going over a node gives -/
def VisOk (fs : FileN) (t : List Nd) (a b : Nat) (_s : ScN) (r : ResN) (q : ResN × ScN) : Prop := r.fault.2 = 0 ∧ Cov fs t a b r q.1 ∧ ScOk q.1.slots q.2
theorem visits_cov {t : List Nd} {fr : List Nat} {fs : FileN} (hf : Formed t fr) : ∀ (n e : Nat), Back fr n e → (∀ p, p < e → ∀ up s r, (∀ s' ∈ s :: up, ScOk r.slots s') → (visitN t fr fs p up s false r).1.fault.2 = 0 → VisOk fs t (fr.getD p 0) (p + 1) s r (visitN t fr fs p up s false r)) →
    ∀ up s r, (∀ s' ∈ s :: up, ScOk r.slots s') → (visitsN t fr fs (partsE fr n e) up s r).1.fault.2 = 0 → VisOk fs t (startE fr n e) e s r (visitsN t fr fs (partsE fr n e) up s r)
  | 0, e, _, _, up, s, r, hs, h0 => ⟨h0, Cov.refl _ _ _ _, hs s List.mem_cons_self⟩
  | n + 1, e, ⟨h1, h2, h3⟩, ih, up, s, r, hs, h0 => by
    rw [partsE, visitsN_append] at h0 ⊢
    rw [startE]
    have hrec := visits_cov (fs := fs) hf n _ h3 (fun p hp => ih p (by omega)) up s r hs
    generalize visitsN t fr fs (partsE fr n (fr.getD (e - 1) 0)) up s r = q at *
    have hq0 : q.1.fault.2 = 0 := by
      by_cases hq : q.1.fault.2 = 0
      · exact hq
      · rw [visitsN_fault hf _ _ _ hq] at h0
        exact absurd h0 hq
    obtain ⟨a1, a2, a3⟩ := hrec hq0
    rw [visitsN, visitsN] at h0 ⊢
    have hs' : ∀ s' ∈ q.2 :: up, ScOk q.1.slots s' := fun s' hm => by
      rcases List.mem_cons.1 hm with rfl | hm
      · exact a3
      · exact a2.slots_ok (hs s' (List.mem_cons_of_mem _ hm))
    obtain ⟨b1, b2, b3⟩ := ih (e - 1) (by omega) up q.2 q.1 hs' h0
    rw [show e - 1 + 1 = e by omega] at b2
    exact ⟨a1, a2.trans b2, b3⟩
theorem visit_cov {t : List Nd} {fr : List Nat} {fs : FileN} (hb : beginsN t = some fr) (hok : FileOk fs) (k : Nat) : k < t.length → ∀ up s own r, (∀ s' ∈ s :: up, ScOk r.slots s') → (visitN t fr fs k up s own r).1.fault.2 = 0 → VisOk fs t (fr.getD k 0) (k + 1) s r (visitN t fr fs k up s own r) := by
  have hf := formed_of hb
  induction k using Nat.strongRecOn with
  | ind k ih =>
    intro hk up s own r hs h0
    have hx := List.getElem?_eq_getElem hk
    obtain ⟨_, h2, h3⟩ := hf.node k _ hx
    have h4 := start_of hb hx
    have hgx : t.getD k ndU0 = t[k] := by simp [List.getD, hk]
    have hvs := visits_cov (fs := fs) hf t[k].n.toNat k h2 (fun p hp up s r => ih p hp (by omega) up s false r)
    rw [← partsAt_is hx, h4] at hvs
    have hone := declsN_one hk
    rw [visitN_eq hf] at h0 ⊢
    by_cases hr : r.fault.2 = 0
    · rw [if_neg (show ¬ r.fault.2 ≠ 0 by simp [hr])] at h0 ⊢
      by_cases k22 : (t.getD k ndU0).kind = 22
      · rw [if_pos k22] at h0 ⊢
        simp only at h0 ⊢
        generalize hs1 : s.take (t.getD k ndU0).text = s1 at *
        generalize hr1 : slotR r s (declS (t.getD k ndU0)) (t.getD k ndU0).at_ = r1 at *
        have hr10 : r1.fault.2 = 0 := by
          by_cases h : r1.fault.2 = 0
          · exact h
          · rw [visitsN_fault hf _ _ _ h] at h0
            exact absurd h0 h
        have h5 := slotR_0 (r := r) (s := s) (x := declS (t.getD k ndU0)) (a := (t.getD k ndU0).at_) (by rw [hr1]; exact hr10)
        rw [hr1] at h5
        obtain ⟨_, _, _, e1⟩ := h5
        have hsl : r1.slots = r.slots ++ [declS (t.getD k ndU0)] := by rw [e1]
        have hs' : ∀ s' ∈ s1 :: up, ScOk r1.slots s' := fun s' hm => by
          rw [hsl]
          rcases List.mem_cons.1 hm with rfl | hm
          · rw [← hs1]; exact ((hs s List.mem_cons_self).take _).more _
          · exact (hs s' (List.mem_cons_of_mem _ hm)).more _
        obtain ⟨_, c2, c3⟩ := hvs up s1 r1 hs' h0
        generalize visitsN t fr fs (partsAt t fr k) up s1 r1 = q at *
        have hslot : SlotOk q.1.slots (slotB r (declS (t.getD k ndU0))) (t.getD k ndU0).text := by
          obtain ⟨ex, ee, _⟩ := c2.slots
          rw [ee, hsl]
          refine SlotOk.more ⟨by unfold slotB; simp, declS (t.getD k ndU0), ?_, rfl, rfl⟩ ex
          unfold slotB
          simp
        have hout : r1.out = r.out := by rw [e1]
        refine ⟨hr, ⟨by omega, ?_, fun j hj => ?_, fun j j1 j2 jl => ?_, ?_⟩, c3.bind rfl hslot⟩
        · show (q.1.out.set k _).length = _
          rw [List.length_set, c2.len, hout]
        · show (q.1.out.set k _)[j]? = _
          rw [List.getElem?_set_ne (by omega), c2.far j (by omega), hout]
        · show if _ then ∃ c, (q.1.out.set k _)[j]? = some c ∧ _ else (q.1.out.set k _)[j]? = _
          by_cases hjk : j = k
          · subst hjk
            rw [if_pos (.inr k22)]
            exact ⟨_, List.getElem?_set_self (by rw [c2.len, hout]; exact jl), .inl ⟨rfl, hslot⟩, fun _ => rfl⟩
          · rw [List.getElem?_set_ne (by omega)]
            have := c2.near j j1 (by omega) (by rw [hout]; exact jl)
            rw [hout] at this
            exact this
        · obtain ⟨ex, ee, l⟩ := c2.slots
          refine ⟨declS (t.getD k ndU0) :: ex, by show q.1.slots = _; rw [ee, hsl]; simp, ?_⟩
          rw [List.length_cons, l, ← declsN_join t h3 (Nat.le_succ k), hone, if_pos k22]
      · rw [if_neg k22] at h0 ⊢
        have key : ∀ (up' : List ScN) (s' : ScN) (r2 : ResN), r2 = nameR fs (s :: up) (t.getD k ndU0) k r → (∀ x ∈ s' :: up', ScOk r.slots x) → (visitsN t fr fs (partsAt t fr k) up' s' r2).1.fault.2 = 0 → Cov fs t (fr.getD k 0) (k + 1) r (visitsN t fr fs (partsAt t fr k) up' s' r2).1 ∧ ScOk (visitsN t fr fs (partsAt t fr k) up' s' r2).1.slots (visitsN t fr fs (partsAt t fr k) up' s' r2).2 := by
          intro up' s' r2 hr2 hs' h0'
          have hr20 : r2.fault.2 = 0 := by
            by_cases h : r2.fault.2 = 0
            · exact h
            · rw [visitsN_fault hf _ _ _ h] at h0'
              exact absurd h0' h
          have hnm := nameR_0 (fs := fs) (c := s :: up) (x := t.getD k ndU0) (k := k) (r := r) (by rw [← hr2]; exact hr20) hr
          rw [← hr2] at hnm
          have hsl : r2.slots = r.slots := by
            rcases hnm with ⟨e, _⟩ | ⟨b, _, _, e⟩ <;> rw [e] <;> rfl
          obtain ⟨_, c2, c3⟩ := hvs up' s' r2 (fun x hm => by rw [hsl]; exact hs' x hm) h0'
          generalize visitsN t fr fs (partsAt t fr k) up' s' r2 = q at *
          refine ⟨⟨by omega, ?_, fun j hj => ?_, fun j j1 j2 jl => ?_, ?_⟩, c3⟩
          · rw [c2.len]
            rcases hnm with ⟨e, _⟩ | ⟨b, _, _, e⟩
            · rw [e]
            · rw [e]; exact List.length_set
          · rw [c2.far j (by omega)]
            rcases hnm with ⟨e, _⟩ | ⟨b, _, _, e⟩
            · rw [e]
            · rw [e]
              show (r.out.set k b)[j]? = _
              rw [List.getElem?_set_ne (by omega)]
          · have hl2 : r2.out.length = r.out.length := by
              rcases hnm with ⟨e, _⟩ | ⟨b, _, _, e⟩
              · rw [e]
              · rw [e]; exact List.length_set
            by_cases hjk : j = k
            · subst hjk
              have hfar := c2.far j (.inr (Nat.le_refl _))
              rcases hnm with ⟨e, hne⟩ | ⟨b, hk3, hfc, e⟩
              · rw [if_neg (by rintro (h | h); exact hne h; exact k22 h), hfar, e]
              · rw [if_pos (.inl hk3)]
                refine ⟨b, ?_, ?_, fun h => absurd h k22⟩
                · rw [hfar, e]
                  exact List.getElem?_set_self jl
                · obtain ⟨ex, ee, _⟩ := c2.slots
                  rw [ee, hsl]
                  exact (findC_ok hok hs hfc).more ex
            · have := c2.near j j1 (by omega) (by rw [hl2]; exact jl)
              split
              · rename_i hk
                rw [if_pos hk] at this
                exact this
              · rename_i hk
                rw [if_neg hk] at this
                rw [this]
                rcases hnm with ⟨e, _⟩ | ⟨b, _, _, e⟩
                · rw [e]
                · rw [e]
                  show (r.out.set k b)[j]? = _
                  rw [List.getElem?_set_ne (fun h => hjk h.symm)]
          · obtain ⟨ex, ee, l⟩ := c2.slots
            refine ⟨ex, by rw [ee, hsl], ?_⟩
            rw [l, ← declsN_join t h3 (Nat.le_succ k), hone, if_neg k22, Nat.add_zero]
        by_cases hop : opensN (t.getD k ndU0) own = true
        · rw [if_pos hop] at h0 ⊢
          obtain ⟨c1, c2⟩ := key (s :: up) ScN.new _ rfl (fun x hm => by
            rcases List.mem_cons.1 hm with rfl | hm
            · exact scOk_new _
            · exact hs x hm) h0
          exact ⟨hr, c1, c1.slots_ok (hs s List.mem_cons_self)⟩
        · rw [if_neg hop] at h0 ⊢
          obtain ⟨c1, c2⟩ := key up s _ rfl hs h0
          exact ⟨hr, c1, c2⟩
    · rw [if_pos hr] at h0
      exact absurd h0 hr
end Go.Proofs.YtbbaooeioogijaaDoor
