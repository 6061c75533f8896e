/- A slot named anew in a whole unit: the unit is right as before, the function's names stand for the same. Plain. · A slot named anew in a whole unit: its file, what the function's names stand for. Plain. -/
import Derived.Test.YtbbaooeioogijaaDoorNamesHd
import Derived.Test.YtbbaooeioogijaaDoorMg26
namespace Go.Proofs.YtbbaooeioogijaaDoor

/-- trees with the same kinds and numbers of parts -/
structure SameKN (t t' : List Nd) : Prop where
  n : t.map Nd.n = t'.map Nd.n
  kind : t.map Nd.kind = t'.map Nd.kind
theorem SameKN.len {t t' : List Nd} (h : SameKN t t') : t.length = t'.length := by
  have := congrArg List.length h.n
  simpa using this
theorem SameKN.kindAt {t t' : List Nd} (h : SameKN t t') (k : Nat) : kindAt t k = kindAt t' k := by
  unfold Go.Proofs.YtbbaooeioogijaaDoor.kindAt
  have := congrArg (fun l => l[k]?) h.kind
  simp only [List.getElem?_map] at this
  rw [this]
theorem SameKN.parts {t t' : List Nd} (h : SameKN t t') (fr : List Nat) (k : Nat) : partsAt t fr k = partsAt t' fr k := by
  unfold partsAt
  have := congrArg (fun l => l[k]?) h.n
  simp only [List.getElem?_map] at this
  congr 1
  rcases h1 : t[k]? with _ | x
  · rw [h1] at this
    rcases h2 : t'[k]? with _ | y
    · rfl
    · rw [h2] at this; cases this
  · rw [h1] at this
    rcases h2 : t'[k]? with _ | y
    · rw [h2] at this; cases this
    · rw [h2] at this
      simp only [Option.map_some, Option.some.injEq] at this
      simp [this]
theorem SameKN.begins {t t' : List Nd} (h : SameKN t t') : beginsN t = beginsN t' := by
  unfold beginsN
  rw [begins_same t t' 0 [] h.n]
theorem SameKN.openF {t t' : List Nd} (h : SameKN t t') (fr : List Nat) : ∀ (m k : Nat), openF t fr m k = openF t' fr m k
  | 0, _ => by rw [Go.Proofs.YtbbaooeioogijaaDoor.openF, Go.Proofs.YtbbaooeioogijaaDoor.openF]
  | m + 1, k => by
    rw [Go.Proofs.YtbbaooeioogijaaDoor.openF, Go.Proofs.YtbbaooeioogijaaDoor.openF]
    simp only [h.kindAt, h.parts, SameKN.openF h fr m]
theorem SameKN.mayAll {t t' : List Nd} (h : SameKN t t') (k : Int) : ∀ (l : List Nat) (i : Nat), mayAll t k i l = mayAll t' k i l
  | [], _ => by rw [Go.Proofs.YtbbaooeioogijaaDoor.mayAll, Go.Proofs.YtbbaooeioogijaaDoor.mayAll]
  | p :: l, i => by rw [Go.Proofs.YtbbaooeioogijaaDoor.mayAll, Go.Proofs.YtbbaooeioogijaaDoor.mayAll, h.kindAt, SameKN.mayAll h k l]
theorem SameKN.fits {t t' : List Nd} (h : SameKN t t') (fr : List Nat) (k : Nat) : fitsN t fr k = fitsN t' fr k := by
  unfold fitsN openN
  simp only [h.kindAt, h.parts, h.mayAll, h.openF]
theorem deepF_same : ∀ (l m : List Nd) (st : List Nat), l.map Nd.n = m.map Nd.n → deepF l st = deepF m st
  | [], [], _, _ => rfl
  | [], _ :: _, _, h => by simp at h
  | _ :: _, [], _, h => by simp at h
  | x :: l, y :: m, st, h => by
    simp only [List.map_cons, List.cons.injEq] at h
    rw [deepF, deepF, h.1, deepF_same l m _ h.2]
/-- what is wrong with a tree is so with another one of the same kinds and parts, if its nodes are right -/
theorem SameKN.check {t t' : List Nd} (h : SameKN t t') (hw : ∀ x ∈ t', wellN x = true) (h0 : checkN9 t = 0) : checkN9 t' = 0 := by
  obtain ⟨h1, _, fr, h2, h3, h4⟩ := check9_0 h0
  unfold checkN9
  rw [if_neg (by rw [← h.len]; omega), if_neg (by rw [Bool.not_eq_false, List.all_eq_true]; exact hw), ← h.begins, h2]
  simp only
  rw [if_neg (by
    rw [Bool.not_eq_false, List.all_eq_true]
    intro k hk
    rw [← h.fits]
    exact h3 k (by rw [h.len]; exact List.mem_range.1 hk)), if_neg (by
    have : deepN t' = deepN t := by unfold deepN; rw [deepF_same t t' [] h.n]
    omega)]
theorem renT_same (i : Nat) (nu : ByteArray) (o : List Bnd) (t : List Nd) : SameKN t (renT i nu o t) := ⟨(renT_n i nu o t).symm, by
  refine List.ext_getElem? fun k => ?_
  rw [List.getElem?_map, List.getElem?_map, renT_at]
  rcases t[k]? with _ | x
  · rfl
  · exact congrArg some (renNd_same i nu x (o.getD k bnd0)).1.symm⟩
theorem ren_well {i : Nat} {nu : ByteArray} {x : Nd} {b : Bnd} (hx : wellN x = true) (hn : isNameB nu = true) (hb : renB i b = true → x.kind = 3 ∨ x.kind = 22) : wellN (renNd i nu x b) = true := by
  unfold renNd
  split
  · rename_i h
    have hk := hb h
    have e : sizeOk (⟨x.kind, x.n, x.at_, x.int, nu, x.type⟩ : Nd) = sizeOk x := rfl
    have e2 : intOk (⟨x.kind, x.n, x.at_, x.int, nu, x.type⟩ : Nd) = intOk x := rfl
    unfold wellN at hx ⊢
    rw [e, e2]
    simp only at hx ⊢
    rw [if_neg (by omega)] at hx ⊢
    rw [Bool.and_eq_true, Bool.and_eq_true] at hx ⊢
    refine ⟨hx.1, hx.2.1, ?_⟩
    have h3 := hx.2.2
    unfold bodyOk at h3 ⊢
    simp only at h3 ⊢
    rw [if_neg (by omega)] at h3 ⊢
    rcases hk with hk | hk
    · rw [if_pos (.inl hk), Bool.and_eq_true] at h3 ⊢
      exact ⟨hn, h3.2⟩
    · rw [if_neg (by omega), if_pos hk, Bool.and_eq_true] at h3 ⊢
      exact ⟨hn, h3.2⟩
  · exact hx
/-- parameters, the one at place i named anew -/
def renPs (i : Nat) (nu : ByteArray) : Nat → List VrU → List VrU
  | _, [] => []
  | k, p :: ps => (if k = i then renVr nu p else p) :: renPs i nu (k + 1) ps
theorem renPs_len (i : Nat) (nu : ByteArray) : ∀ (ps : List VrU) (k : Nat), (renPs i nu k ps).length = ps.length
  | [], _ => rfl
  | p :: ps, k => by rw [renPs, List.length_cons, List.length_cons, renPs_len i nu ps]
theorem renPs_at (i : Nat) (nu : ByteArray) : ∀ (ps : List VrU) (k j : Nat), (renPs i nu k ps)[j]? = (ps[j]?).map fun p => if k + j = i then renVr nu p else p
  | [], _, _ => by simp [renPs]
  | p :: ps, k, 0 => by simp [renPs]
  | p :: ps, k, j + 1 => by
    rw [renPs, List.getElem?_cons_succ, List.getElem?_cons_succ, renPs_at i nu ps, show k + 1 + j = k + (j + 1) by omega]
def renF (i : Nat) (nu : ByteArray) (o : List Bnd) (f : FnU) : FnU := ⟨f.at_, f.name, f.type, renPs i nu 0 f.params, renT i nu o f.body⟩
def renG (n : ByteArray) (i : Nat) (nu : ByteArray) (o : List Bnd) (f : FnU) : FnU := if f.name = n ∧ f.body ≠ [] then renF i nu o f else f
def renU (n : ByteArray) (i : Nat) (nu : ByteArray) (o : List Bnd) (u : UnU) : UnU := ⟨u.structs, u.globals, u.funcs.map (renG n i nu o)⟩
theorem renT_nil {i : Nat} {nu : ByteArray} {o : List Bnd} {t : List Nd} : renT i nu o t = [] ↔ t = [] := by
  constructor
  · intro h
    have := renT_len i nu o t
    rw [h] at this
    exact List.eq_nil_of_length_eq_zero this.symm
  · rintro rfl; rfl
theorem renG_same (n : ByteArray) (i : Nat) (nu : ByteArray) (o : List Bnd) (f : FnU) : (renG n i nu o f).name = f.name ∧ (renG n i nu o f).type = f.type ∧ (renG n i nu o f).at_ = f.at_ ∧ ((renG n i nu o f).body = [] ↔ f.body = []) := by
  unfold renG
  split
  · exact ⟨rfl, rfl, rfl, renT_nil⟩
  · exact ⟨rfl, rfl, rfl, Iff.rfl⟩
theorem firstE_all0 {α : Type} {f : α → Int} : ∀ {L : List α} {n : Nat}, (∀ x ∈ L, f x = 0) → firstE f L n = none
  | [], _, _ => rfl
  | y :: r, n, h => by
    rw [firstE, if_neg (by have := h y List.mem_cons_self; simpa using this)]
    exact firstE_all0 fun x hx => h x (List.mem_cons_of_mem _ hx)
theorem zipH_at {α β : Type} {l : List α} {m : List β} {q : α × β} (h : q ∈ l.zip m) : ∃ j : Nat, l[j]? = some q.1 ∧ m[j]? = some q.2 := by
  obtain ⟨j, hj⟩ := List.mem_iff_getElem?.1 h
  exact ⟨j, List.getElem?_zip_eq_some.1 hj⟩
theorem zipH_mem {α β : Type} {l : List α} {m : List β} {a : α} {b : β} {j : Nat} (h1 : l[j]? = some a) (h2 : m[j]? = some b) : (a, b) ∈ l.zip m :=
  List.mem_iff_getElem?.2 ⟨j, List.getElem?_zip_eq_some.2 ⟨h1, h2⟩⟩
/-- a right function, one of its slots named anew, is right -/
theorem renF_ok {L : List Sr} {f : FnU} {i : Nat} {nu : ByteArray} {o : List Bnd} (h : funcE L f = 0) (hb : f.body ≠ []) (hn : isNameB nu = true) (ho : ∀ k, k < f.body.length → renB i (o.getD k bnd0) = true → (f.body.getD k ndU0).kind = 3 ∨ (f.body.getD k ndU0).kind = 22) : funcE L (renF i nu o f) = 0 := by
  have hck : checkN9 (renT i nu o f.body) = 0 := by
    obtain ⟨_, hbt⟩ := funcE_0 h
    have h1 := (hbt.resolve_left hb).1
    obtain ⟨_, hw, _⟩ := check9_0 h1
    refine (renT_same i nu o f.body).check (fun x hx => ?_) h1
    obtain ⟨k, hk⟩ := List.mem_iff_getElem?.1 hx
    rw [renT_at, Option.map_eq_some_iff] at hk
    obtain ⟨y, hy, rfl⟩ := hk
    have hk := (List.getElem?_eq_some_iff.1 hy).1
    refine ren_well (hw y (List.mem_of_getElem? hy)) hn fun hr => ?_
    have := ho k hk hr
    rw [List.getD_eq_getElem?_getD, hy] at this
    exact this
  unfold funcE at h ⊢
  have et : (renF i nu o f).type = f.type := rfl
  have eh : headF L (renF i nu o f) = headF L f := rfl
  have el : (renF i nu o f).params.length = f.params.length := renPs_len i nu f.params 0
  rw [et, eh]
  split at h
  · rename_i ps r ht
    split at h
    · cases h
    · rename_i h1
      rw [el, if_neg h1]
      split at h
      · rename_i h2; cases h
      · rename_i h2
        have hall : ∀ q ∈ f.params.zip ps, parmE (decide (f.body ≠ [])) q = 0 := by
          have h3 : codeE (firstE (parmE (decide (f.body ≠ []))) (f.params.zip ps) 0) = 0 := by simpa using h2
          rcases hf : firstE (parmE (decide (f.body ≠ []))) (f.params.zip ps) 0 with _ | p
          · exact firstE_0 hf
          · rw [hf] at h3
            exact absurd h3 (firstB_ne hf)
        have hb' : decide ((renF i nu o f).body ≠ []) = true := decide_eq_true (fun e => hb (renT_nil.1 e))
        have hbt : decide (f.body ≠ []) = true := decide_eq_true hb
        rw [hb']
        rw [hbt] at hall
        rw [firstE_all0 (fun q hq => by
          obtain ⟨j, hj1, hj2⟩ := zipH_at hq
          have hj1' : (renPs i nu 0 f.params)[j]? = some q.1 := hj1
          rw [renPs_at, Option.map_eq_some_iff] at hj1'
          obtain ⟨p, hp, hpe⟩ := hj1'
          have hq0 := hall _ (zipH_mem hp hj2)
          have hqe : q = (q.1, q.2) := rfl
          split at hpe
          · rw [hqe, ← hpe]
            unfold parmE at hq0 ⊢
            split at hq0
            · rename_i h4
              rw [if_pos ⟨h4.1, .inl hn, h4.2.2⟩]
            · cases hq0
          · rw [hqe, ← hpe]
            exact hq0)]
        rw [if_neg (show ¬ codeE none ≠ 0 by decide)]
        unfold bodyE at h ⊢
        rw [if_neg hb] at h
        rw [if_neg (show ¬ (renF i nu o f).body = [] from fun e => hb (renT_nil.1 e))]
        split at h
        · rename_i h5; exact absurd h h5
        · split at h
          · cases h
          · rename_i h6
            show (if checkN9 (renT i nu o f.body) ≠ 0 then _ else if kindAt (renT i nu o f.body) ((renT i nu o f.body).length - 1) ≠ 21 then _ else _) = _
            rw [if_neg (by simp [hck]), if_neg (by rw [← (renT_same i nu o f.body).kindAt, renT_len]; exact h6)]
  · cases h
end Go.Proofs.YtbbaooeioogijaaDoor
namespace Go.Proofs.YtbbaooeioogijaaDoor

section
variable {n : ByteArray} {i : Nat} {nu : ByteArray} {o : List Bnd}
def renFile (n : ByteArray) (i : Nat) (nu : ByteArray) (o : List Bnd) (s : FileN) : FileN := ⟨s.ents, s.funcs.map (renG n i nu o)⟩
theorem renFile_look (s : FileN) (m : ByteArray) : (renFile n i nu o s).look m = s.look m := rfl
theorem renG_0 : renG n i nu o fnU0 = fnU0 := by
  unfold renG
  rw [if_neg (fun h => h.2 rfl)]
theorem renFile_at (s : FileN) (k : Nat) : (renFile n i nu o s).funcs.getD k fnU0 = renG n i nu o (s.funcs.getD k fnU0) := by
  unfold renFile
  simp only
  rw [List.getD_eq_getElem?_getD, List.getD_eq_getElem?_getD, List.getElem?_map]
  rcases s.funcs[k]? with _ | f
  · exact renG_0.symm
  · rfl
theorem oneF_ren (s : FileN) (x : FnU) : oneF (renFile n i nu o s) (renG n i nu o x) = (match oneF s x with
    | .inl c => .inl c
    | .inr s' => .inr (renFile n i nu o s')) := by
  obtain ⟨x1, x2, x3, x4⟩ := renG_same n i nu o x
  unfold oneF
  rw [x1, renFile_look, x2]
  rcases hl : s.look x.name with _ | b
  · simp only
    have hlen : (renFile n i nu o s).funcs.length = s.funcs.length := by simp [renFile]
    rw [hlen]
    split
    · rfl
    · simp [renFile]
  · simp only
    rw [renFile_at]
    obtain ⟨y1, y2, y3, y4⟩ := renG_same n i nu o (s.funcs.getD b.idx.toNat fnU0)
    rw [y2]
    simp only [ne_eq, x4, y4]
    split
    · rfl
    · split
      · rfl
      · split
        · rfl
        · split
          · simp only [renFile, List.map_set]
          · rfl
theorem funcsN_ren : ∀ (L : List FnU) (s : FileN), funcsN (L.map (renG n i nu o)) (renFile n i nu o s) = (match funcsN L s with
    | .inl c => .inl c
    | .inr s' => .inr (renFile n i nu o s'))
  | [], s => rfl
  | x :: r, s => by
    rw [List.map_cons, funcsN, oneF_ren, funcsN]
    rcases oneF s x with c | s1
    · simp only
      rw [(renG_same n i nu o x).2.2.1]
    · simp only
      exact funcsN_ren r s1
theorem oneF_body {s s' : FileN} {x : FnU} (hok : FileOk s) (h : oneF s x = .inr s') : (∀ y ∈ s.funcs, y.body ≠ [] → y ∈ s'.funcs) ∧ (x.body ≠ [] → x ∈ s'.funcs) := by
  unfold oneF at h
  rcases hl : s.look x.name with _ | b
  · rw [hl] at h
    simp only at h
    split at h
    · cases h
    · obtain rfl := Sum.inr.inj h
      exact ⟨fun y hy _ => List.mem_append_left _ hy, fun _ => by simp⟩
  · rw [hl] at h
    simp only at h
    split at h
    · cases h
    rename_i hk
    have hk : b.kind = 2 := by simpa using hk
    split at h
    · cases h
    rename_i hb
    split at h
    · cases h
    split at h
    · rename_i hx
      obtain rfl := Sum.inr.inj h
      have hidx := (hok.func hl hk).2.1
      refine ⟨fun y hy hyb => ?_, fun _ => List.mem_set hidx x⟩
      obtain ⟨j, hj⟩ := List.mem_iff_getElem?.1 hy
      have hne : b.idx.toNat ≠ j := fun e => by
        subst e
        refine hb ⟨hx, ?_⟩
        rw [List.getD_eq_getElem?_getD, hj]
        exact hyb
      refine List.mem_iff_getElem?.2 ⟨j, ?_⟩
      rw [List.getElem?_set_ne hne]
      exact hj
    · rename_i hx
      obtain rfl := Sum.inr.inj h
      exact ⟨fun y hy _ => hy, fun hx' => absurd hx' hx⟩
theorem funcsN_body : ∀ {L : List FnU} {s s' : FileN}, FileOk s → funcsN L s = .inr s' → (∀ y ∈ s.funcs, y.body ≠ [] → y ∈ s'.funcs) ∧ ∀ x ∈ L, x.body ≠ [] → x ∈ s'.funcs
  | [], s, s', hok, h => by
    rw [funcsN] at h
    obtain rfl := Sum.inr.inj h
    exact ⟨fun y hy _ => hy, fun x hx => by cases hx⟩
  | x :: r, s, s', hok, h => by
    rw [funcsN] at h
    rcases hx : oneF s x with c | s1
    · rw [hx] at h; cases h
    · rw [hx] at h
      obtain ⟨a1, a2⟩ := oneF_body hok hx
      obtain ⟨b1, b2⟩ := funcsN_body (oneF_ok hok hx).1 h
      refine ⟨fun y hy hb => b1 y (a1 y hy hb) hb, fun y hy hb => ?_⟩
      rcases List.mem_cons.1 hy with rfl | hy
      · exact b1 _ (a2 hb) hb
      · exact b2 y hy hb
/-- a name has one body at most -/
theorem body_one {u : UnU} {fs : FileN} {f : FnU} (h : fileN u = .inr fs) (hb : bodyOf fs n = some f) : ∀ x ∈ u.funcs, x.name = n → x.body ≠ [] → x = f := fun x hx hn hxb => by
  obtain ⟨_, s, _, h2, _, h4⟩ := fileN_0 h
  have hok := file_ok h
  obtain ⟨b, _, _, _, hi, hget, hnm, _⟩ := bodyOf_some hok hb
  have hm := (funcsN_body h4 h2).2 x hx hxb
  obtain ⟨j, hj⟩ := List.mem_iff_getElem?.1 hm
  have hjl := (List.getElem?_eq_some_iff.1 hj).1
  have e := hok.uniq hjl hi (by rw [List.getD_eq_getElem?_getD, List.getD_eq_getElem?_getD, hj, hget]; exact hn.trans hnm.symm)
  rw [e, hget] at hj
  exact (Option.some.inj hj).symm
theorem fileN_ren {u : UnU} {fs : FileN} {f : FnU} (h : fileN u = .inr fs) (hb : bodyOf fs n = some f) (hn : isNameB nu = true) (ho : ∀ k, k < f.body.length → renB i (o.getD k bnd0) = true → (f.body.getD k ndU0).kind = 3 ∨ (f.body.getD k ndU0).kind = 22) : fileN (renU n i nu o u) = .inr (renFile n i nu o fs) := by
  obtain ⟨h0, s, h1, h2, h3, h4⟩ := fileN_0 h
  obtain ⟨g0, f0⟩ := unitE_0 h0
  have hall : ∀ x ∈ u.funcs, funcE u.structs (renG n i nu o x) = 0 := fun x hx => by
    unfold renG
    split
    · rename_i hc
      obtain rfl := body_one h hb x hx hc.1 hc.2
      exact renF_ok (f0 x hx) hc.2 hn ho
    · exact f0 x hx
  have hu : (unitE (renU n i nu o u)).2 = 0 := by
    unfold unitE at h0 ⊢
    have hl : (renU n i nu o u).funcs.length = u.funcs.length := by simp [renU]
    have es : (renU n i nu o u).structs = u.structs := rfl
    have eg : (renU n i nu o u).globals = u.globals := rfl
    rw [hl, es, eg]
    split at h0
    · exact absurd h0 (by decide)
    · rename_i q1
      rw [if_neg q1]
      split at h0
      · rename_i q2; exact absurd h0 q2
      · rename_i q2
        rw [if_neg q2, firstE_all0 (f := globE u.structs) g0, firstE_all0 (f := funcE u.structs) (fun x hx => by
          obtain ⟨y, hy, rfl⟩ := List.mem_map.1 hx
          exact hall y hy)]
  unfold fileN
  rw [if_neg (by simp [hu])]
  have eg : (renU n i nu o u).globals = u.globals := rfl
  rw [eg, h1]
  simp only
  have hs : s = renFile n i nu o s := by
    unfold renFile
    rw [h3]
    obtain ⟨e, fsn⟩ := s
    simp only at h3
    subst h3
    rfl
  have hk := funcsN_ren (n := n) (i := i) (nu := nu) (o := o) u.funcs s
  rw [h2, ← hs] at hk
  exact hk
theorem bodyOf_ren {fs : FileN} {f : FnU} (hok : FileOk fs) (hb : bodyOf fs n = some f) : bodyOf (renFile n i nu o fs) n = some (renF i nu o f) := by
  obtain ⟨b, h1, h2, _, h4, h5, h6, h7⟩ := bodyOf_some hok hb
  unfold bodyOf
  rw [renFile_look, h1]
  simp only
  rw [renFile_at, List.getD_eq_getElem?_getD, h5, Option.getD_some]
  have hr : renG n i nu o f = renF i nu o f := by
    unfold renG
    rw [if_pos ⟨h6, h7⟩]
  rw [hr, if_neg]
  rintro (h | h)
  · exact h h2
  · exact h7 (renT_nil.1 h)
/-- parameters gone over twice -/
theorem parms_ren : ∀ (ps : List VrU) (a : Int) (r r' : ResN) (s s' : ScN), (∀ p ∈ ps, p.name ≠ nu) → Sim i nu r r' [] [] s s' → (parmsR ps a r s).1.fault.2 = 0 →
    Sim i nu (parmsR ps a r s).1 (parmsR (renPs i nu r.slots.length ps) a r' s').1 [] [] (parmsR ps a r s).2 (parmsR (renPs i nu r.slots.length ps) a r' s').2
  | [], a, r, r', s, s', _, h, _ => h
  | p :: ps, a, r, r', s, s', hp, h, h0 => by
    rw [renPs, parmsR, parmsR]
    rw [parmsR] at h0
    have h1 := (parms_0 ps a _ _ h0).1
    obtain ⟨_, _, _, e1⟩ := slotR_0 h1
    have hpn := hp p List.mem_cons_self
    obtain ⟨b1, b2, b3⟩ := slot_ren (x := parmS p) h.res h.tk hpn h1
    have hx : parmS (if r.slots.length = i then renVr nu p else p) = renS i r.slots.length nu (parmS p) := by
      unfold renS
      split <;> rfl
    have hxn : (if r.slots.length = i then renVr nu p else p).name = (renS i r.slots.length nu (parmS p)).name := by rw [← hx]; rfl
    have e1' : slotR r s (parmS p) a = ⟨r.slots ++ [parmS p], r.out, r.fault⟩ := e1
    have hsl : (slotR r s (parmS p) a).slots = r.slots ++ [parmS p] := by rw [e1']
    have hlen : (slotR r s (parmS p) a).slots.length = r.slots.length + 1 := by rw [hsl]; simp
    have hrb : renB i (slotB r (parmS p)) = decide (r.slots.length = i) := by
      unfold renB slotB
      simp only [decide_true, Bool.true_and, decide_eq_decide]
      omega
    have hslot : SlotOk (slotR r s (parmS p) a).slots (slotB r (parmS p)) p.name := by
      rw [hsl]
      refine ⟨by unfold slotB; simp, parmS p, ?_, rfl, rfl⟩
      unfold slotB
      simp
    have hrec := parms_ren ps a (slotR r s (parmS p) a) (slotR r' s' (renS i r.slots.length nu (parmS p)) a) ((s.take p.name).bind p.name (slotB r (parmS p))) ((s'.take (renS i r.slots.length nu (parmS p)).name).bind (renS i r.slots.length nu (parmS p)).name (slotB r' (renS i r.slots.length nu (parmS p)))) (fun q hq => hp q (List.mem_cons_of_mem _ hq)) (by
      refine ⟨b1, .nil, ⟨?_, fun q hq => ?_⟩, b2, fun x hm => ?_⟩
      · show ((renS i r.slots.length nu (parmS p)).name, slotB r' _) :: s'.ents = renE i nu _ :: s.ents.map (renE i nu)
        rw [b3, h.sc.ents]
        congr 1
        unfold renE
        simp only [hrb]
        unfold renS
        simp only [decide_eq_true_eq]
        split <;> rfl
      · rcases List.mem_cons.1 hq with rfl | hq
        · exact hpn
        · exact h.sc.away q hq
      · rw [List.mem_singleton] at hm
        subst hm
        intro q hq
        rcases List.mem_cons.1 hq with rfl | hq
        · exact ⟨hpn, rfl, hslot⟩
        · obtain ⟨c1, c2, c3⟩ := h.all s List.mem_cons_self q hq
          refine ⟨c1, c2, ?_⟩
          rw [hsl]
          exact c3.more _) h0
    rw [hlen] at hrec
    have e2 : (⟨(if r.slots.length = i then renVr nu p else p).name, (if r.slots.length = i then renVr nu p else p).type, (if r.slots.length = i then renVr nu p else p).vol, true⟩ : SlU) = renS i r.slots.length nu (parmS p) := hx
    rw [e2, hxn]
    exact hrec
/-- what the function's names stand for -/
theorem gone_ren {fs : FileN} {f : FnU} {fr : List Nat} (hok : FileOk fs) (hb : beginsN f.body = some fr) (hne : f.body ≠ []) (h0 : (goneR fs f).fault.2 = 0) (hp : ∀ p ∈ f.params, p.name ≠ nu) (hto : ∀ k, k < f.body.length → (f.body.getD k ndU0).kind = 3 ∨ (f.body.getD k ndU0).kind = 22 → (f.body.getD k ndU0).text ≠ nu) (ho : o = (goneR fs f).out) :
    ResR i nu (goneR fs f) (goneR (renFile n i nu o fs) (renF i nu o f)) := by
  have hl : 0 < f.body.length := List.length_pos_iff.2 hne
  have hlen : (renT i nu o f.body).length = f.body.length := renT_len i nu o f.body
  unfold goneR at h0 ho ⊢
  have eb : (renF i nu o f).body = renT i nu o f.body := rfl
  have ep : (renF i nu o f).params = renPs i nu 0 f.params := rfl
  have ea : (renF i nu o f).at_ = f.at_ := rfl
  rw [hb] at h0 ho
  rw [eb, ep, ea, hlen, renT_begins, hb]
  simp only [Option.getD_some] at h0 ho ⊢
  generalize hq : parmsR f.params f.at_ ⟨[], List.replicate f.body.length bnd0, (0, 0)⟩ ScN.new = q at *
  have hq0 : q.1.fault.2 = 0 := by
    by_cases hq0 : q.1.fault.2 = 0
    · exact hq0
    · rw [visitN_fault (formed_of hb) _ _ _ _ hq0] at h0
      exact absurd h0 hq0
  have hsim0 : Sim i nu ⟨[], List.replicate f.body.length bnd0, (0, 0)⟩ ⟨[], List.replicate f.body.length bnd0, (0, 0)⟩ [] [] ScN.new ScN.new := ⟨⟨rfl, rfl, fun j => by simp⟩, .nil, ⟨rfl, fun q h => by cases h⟩, TkR.new _ _ _, fun x hx => by rw [List.mem_singleton.1 hx]; exact scAll_new _ _⟩
  have hps := parms_ren f.params f.at_ _ _ _ _ hp hsim0 (by rw [hq]; exact hq0)
  rw [hq] at hps
  have hout : q.1.out.length = f.body.length := by rw [← hq, (parms_len _ _ _ _).2.1]; simp
  have hv := visit_ren (fs' := renFile n i nu o fs) (i := i) (nu := nu) (o := o) hb hok (fun m => renFile_look fs m) hto (f.body.length - 1) (by omega) [] [] q.2 _ true q.1 _ hout hps h0 (fun j _ _ => by rw [ho])
  exact hv.res
/-- the whole unit, a slot of one of its functions named anew -/
theorem resolve_ren {u : UnU} {fs : FileN} {f : FnU} (h : fileN u = .inr fs) (hb : bodyOf fs n = some f) (h0 : (goneR fs f).fault.2 = 0) (hn : isNameB nu = true) (hp : ∀ p ∈ f.params, p.name ≠ nu) (hto : ∀ k, k < f.body.length → (f.body.getD k ndU0).kind = 3 ∨ (f.body.getD k ndU0).kind = 22 → (f.body.getD k ndU0).text ≠ nu)
    (ho : o = (goneR fs f).out) (hk : ∀ k, k < f.body.length → renB i (o.getD k bnd0) = true → (f.body.getD k ndU0).kind = 3 ∨ (f.body.getD k ndU0).kind = 22) : ∃ R, resolveN (renU n i nu o u) n = .inr (R, renF i nu o f, renFile n i nu o fs) ∧ ResR i nu (goneR fs f) R := by
  have hok := file_ok h
  obtain ⟨_, _, _, _, _, hget, _, hne⟩ := bodyOf_some hok hb
  obtain ⟨_, hbt⟩ := funcE_0 (file_funcs h f (List.mem_of_getElem? hget)).2
  obtain ⟨_, _, fr, hbg, _⟩ := check9_0 (hbt.resolve_left hne).1
  have hR := gone_ren (n := n) (i := i) hok hbg hne h0 hp hto ho
  refine ⟨_, ?_, hR⟩
  unfold resolveN
  rw [fileN_ren h hb hn hk]
  simp only
  rw [bodyOf_ren hok hb]
  simp only
  rw [if_neg (by rw [hR.fault]; simp [h0])]
end
end Go.Proofs.YtbbaooeioogijaaDoor
