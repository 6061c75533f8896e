/- Trees: nodes behind their parts; where a part begins, what its parts are, whether they fit, how deep it is. Plain: nothing of the program. · Trees: what is so of parts, of open ifs, of depths. Plain: nothing of the program. · Going over a tree: each place once, a whole ahead of its parts. Plain: nothing of the program. -/
import Derived.Test.YtlcfejgjeljjdaaGreatDoorMg3
namespace Go.Proofs.YtlcfejgjeljjdaaGreatDoor

structure Nd where
  kind : Int
  n : Int
  at_ : Int
  int : Int
  text : ByteArray
  type : ByteArray
/-- least and most parts -/
def arityN (k : Int) : Int × Int :=
  if k = 1 ∨ k = 2 ∨ k = 3 ∨ k = 17 ∨ k = 30 ∨ k = 31 ∨ k = 33 then (0, 0)
  else if k = 4 ∨ k = 5 ∨ k = 6 ∨ k = 13 ∨ k = 14 ∨ k = 15 ∨ k = 16 ∨ k = 20 ∨ k = 29 then (1, 1)
  else if k = 7 ∨ k = 8 ∨ k = 10 ∨ k = 12 ∨ k = 24 ∨ k = 25 ∨ k = 27 ∨ k = 28 then (2, 2)
  else if k = 9 then (3, 3)
  else if k = 26 then (4, 4)
  else if k = 11 then (1, 9)
  else if k = 21 then (0, 4096)
  else if k = 22 ∨ k = 32 then (0, 1)
  else if k = 23 then (2, 3)
  else (-1, -1)
/-- a type that may stand in a tree -/
def typedS (s : ByteArray) : Bool := decide (checkS [] s = 0 ∨ checkS [] s = 4)
def objectS (s : ByteArray) : Bool := (tyS s).any objectT
def marksB : List ByteArray := [⟨#[42]⟩, ⟨#[47]⟩, ⟨#[37]⟩, ⟨#[43]⟩, ⟨#[45]⟩, ⟨#[60, 60]⟩, ⟨#[62, 62]⟩, ⟨#[60]⟩, ⟨#[62]⟩, ⟨#[60, 61]⟩, ⟨#[62, 61]⟩, ⟨#[61, 61]⟩, ⟨#[33, 61]⟩, ⟨#[38]⟩, ⟨#[94]⟩, ⟨#[124]⟩, ⟨#[38, 38]⟩, ⟨#[124, 124]⟩]
def marksN (k : Int) : List ByteArray :=
  if k = 4 then [⟨#[45]⟩, ⟨#[126]⟩, ⟨#[33]⟩, ⟨#[38]⟩, ⟨#[42]⟩]
  else if k = 5 ∨ k = 6 then [⟨#[43, 43]⟩, ⟨#[45, 45]⟩]
  else if k = 7 then marksB
  else if k = 8 then [⟨#[61]⟩, ⟨#[42, 61]⟩, ⟨#[47, 61]⟩, ⟨#[37, 61]⟩, ⟨#[43, 61]⟩, ⟨#[45, 61]⟩, ⟨#[60, 60, 61]⟩, ⟨#[62, 62, 61]⟩, ⟨#[38, 61]⟩, ⟨#[94, 61]⟩, ⟨#[124, 61]⟩]
  else []
def noText (s : ByteArray) : Bool := decide (s.size = 0)
def numberN (x : Nd) : Bool := if x.type = ⟨#[117]⟩ then decide (0 ≤ x.int ∧ x.int < 4294967296) else decide (x.type = ⟨#[105]⟩) && decide (-128 ≤ x.int ∧ x.int < 2147483648)
/-- parts and place -/
def sizeOk (x : Nd) : Bool := decide (0 ≤ (arityN x.kind).1 ∧ (arityN x.kind).1 ≤ x.n ∧ x.n ≤ (arityN x.kind).2 ∧ 0 ≤ x.at_ ∧ x.at_ ≤ 65536)
def intOk (x : Nd) : Bool := decide (x.int = 0 ∨ (x.kind = 22 ∧ x.int = 1))
/-- text and type, by kind -/
def bodyOk (x : Nd) : Bool :=
  if x.kind = 2 then decide (x.text.size ≤ 4096) && noText x.type
  else if x.kind = 3 ∨ x.kind = 13 ∨ x.kind = 14 then isNameB x.text && noText x.type
  else if x.kind = 22 then isNameB x.text && (typedS x.type && objectS x.type)
  else if x.kind = 4 ∨ x.kind = 5 ∨ x.kind = 6 ∨ x.kind = 7 ∨ x.kind = 8 then Lib.containsS (marksN x.kind) x.text && noText x.type
  else if x.kind = 15 ∨ x.kind = 17 then noText x.text && typedS x.type
  else noText x.text && noText x.type
/-- a node that is right by itself -/
def wellN (x : Nd) : Bool := sizeOk x && (if x.kind = 1 then numberN x && noText x.text else intOk x && bodyOk x)

/-- of each node where its part begins; st: where the parts begin that wait, the last one first -/
def beginsF : List Nd → Nat → List Nat → Option (List Nat × List Nat)
  | [], _, st => some ([], st)
  | x :: l, i, st =>
    if x.n < 0 ∨ (st.length : Int) < x.n then none
    else
      let a := if 0 < x.n then st.getD (x.n.toNat - 1) 0 else i
      (beginsF l (i + 1) (a :: st.drop x.n.toNat)).map fun r => (a :: r.1, r.2)
def beginsN (t : List Nd) : Option (List Nat) := match beginsF t 0 [] with
  | some (f, [_]) => some f
  | _ => none
/-- the places of n parts, the last of which ends ahead of e -/
def partsE (fr : List Nat) : Nat → Nat → List Nat
  | 0, _ => []
  | n + 1, e => partsE fr n (fr.getD (e - 1) 0) ++ [e - 1]
/-- there are so many parts ahead of e -/
def Back (fr : List Nat) : Nat → Nat → Prop
  | 0, _ => True
  | n + 1, e => 0 < e ∧ fr.getD (e - 1) 0 < e ∧ Back fr n (fr.getD (e - 1) 0)
/-- the parts that wait end ahead of e -/
def Ends (fr : List Nat) : List Nat → Nat → Prop
  | [], _ => True
  | s :: st, e => s < e ∧ fr.getD (e - 1) 0 = s ∧ Ends fr st s
theorem Ends.back {fr : List Nat} : ∀ {st : List Nat} {e n : Nat}, Ends fr st e → n ≤ st.length → Back fr n e
  | _, _, 0, _, _ => trivial
  | [], _, n + 1, _, h => by simp at h
  | s :: st, e, n + 1, ⟨h1, h2, h3⟩, h => ⟨by omega, by omega, by rw [h2]; exact Ends.back h3 (by simpa using h)⟩
theorem getD_app {fr g : List Nat} {k : Nat} (h : k < fr.length) : (fr ++ g).getD k 0 = fr.getD k 0 := by
  rw [List.getD_eq_getElem?_getD, List.getD_eq_getElem?_getD, List.getElem?_append_left h]
theorem Ends.app {fr g : List Nat} : ∀ {st : List Nat} {e : Nat}, e ≤ fr.length → Ends fr st e → Ends (fr ++ g) st e
  | [], _, _, _ => trivial
  | s :: st, e, he, ⟨h1, h2, h3⟩ => ⟨h1, by rw [getD_app (by omega)]; exact h2, Ends.app (by omega) h3⟩
theorem Ends.drop {fr : List Nat} : ∀ {st : List Nat} {e : Nat} (n : Nat), Ends fr st e → 0 < n → n ≤ st.length → Ends fr (st.drop n) (st.getD (n - 1) 0)
  | [], _, n, _, h0, h => by simp at h; omega
  | s :: st, e, n + 1, ⟨h1, h2, h3⟩, _, h => by
    cases n with
    | zero => simpa using h3
    | succ n =>
      have := Ends.drop (n + 1) h3 (by omega) (by simpa using h)
      simpa using this
theorem Ends.lt {fr : List Nat} : ∀ {st : List Nat} {e : Nat} (n : Nat), Ends fr st e → n < st.length → st.getD n 0 < e
  | [], _, n, _, h => by simp at h
  | s :: st, e, 0, ⟨h1, _, _⟩, _ => by simpa using h1
  | s :: st, e, n + 1, ⟨h1, _, h3⟩, h => by
    have := Ends.lt n h3 (by simpa using h)
    simp only [List.getD_cons_succ]
    omega
/-- what is so of each node: its parts are there -/
theorem begins_back : ∀ (l : List Nd) (pre : List Nat) (st : List Nat) {f st' : List Nat}, beginsF l pre.length st = some (f, st') → Ends pre st pre.length →
    f.length = l.length ∧ Ends (pre ++ f) st' (pre.length + l.length) ∧ ∀ (j : Nat) x, l[j]? = some x → 0 ≤ x.n ∧ Back (pre ++ f) x.n.toNat (pre.length + j) ∧ (pre ++ f).getD (pre.length + j) 0 ≤ pre.length + j
  | [], pre, st, f, st', h, he => by
    rw [beginsF] at h
    obtain ⟨rfl, rfl⟩ := Prod.mk.inj (Option.some.inj h)
    exact ⟨rfl, by simpa using he, fun j x hx => by simp at hx⟩
  | x :: l, pre, st, f, st', h, he => by
    rw [beginsF] at h
    split at h
    · cases h
    · rename_i hn
      simp only [Option.map_eq_some_iff] at h
      obtain ⟨⟨g, st2⟩, hg, e⟩ := h
      obtain ⟨rfl, rfl⟩ := Prod.mk.inj e
      simp only at hg ⊢
      generalize ha : (if 0 < x.n then st.getD (x.n.toNat - 1) 0 else pre.length) = a at *
      have hle : x.n.toNat ≤ st.length := by omega
      have ha1 : a ≤ pre.length := by
        rw [← ha]
        split
        · exact Nat.le_of_lt (he.lt _ (by omega))
        · exact Nat.le_refl _
      have he2 : Ends (pre ++ [a]) (a :: st.drop x.n.toNat) (pre ++ [a]).length := by
        refine ⟨by simp; omega, by simp, ?_⟩
        by_cases h0 : 0 < x.n
        · rw [if_pos h0] at ha
          rw [← ha]
          exact (he.drop x.n.toNat (by omega) hle).app (by rw [ha]; exact ha1)
        · rw [if_neg h0] at ha
          have : x.n.toNat = 0 := by omega
          rw [this, ← ha]
          simpa using he.app (Nat.le_refl _)
      have hl1 : (pre ++ [a]).length = pre.length + 1 := by simp
      obtain ⟨h1, h2, h3⟩ := begins_back l (pre ++ [a]) _ (by rw [hl1]; exact hg) he2
      have hap : pre ++ [a] ++ g = pre ++ a :: g := by simp
      rw [hap, hl1] at h2 h3
      refine ⟨by simp [h1], by rw [show pre.length + (x :: l).length = pre.length + 1 + l.length by simp; omega]; exact h2, fun j y hy => ?_⟩
      cases j with
      | zero =>
        obtain rfl := Option.some.inj hy
        refine ⟨by omega, ?_, ?_⟩
        · have := (he.app (g := a :: g) (Nat.le_refl _)).back (n := x.n.toNat) hle
          simpa using this
        · rw [List.getD_eq_getElem?_getD, Nat.add_zero, List.getElem?_append_right (Nat.le_refl _), Nat.sub_self]
          exact ha1
      | succ j =>
        have := h3 j y (by simpa using hy)
        rw [show pre.length + (j + 1) = pre.length + 1 + j by omega]
        exact this
/-- a list of nodes that is well formed, and where its parts begin -/
structure Formed (t : List Nd) (fr : List Nat) : Prop where
  len : fr.length = t.length
  pos : 0 < t.length
  node : ∀ (j : Nat) x, t[j]? = some x → 0 ≤ x.n ∧ Back fr x.n.toNat j ∧ fr.getD j 0 ≤ j
theorem formed_of {t : List Nd} {fr : List Nat} (h : beginsN t = some fr) : Formed t fr := by
  unfold beginsN at h
  split at h
  · rename_i f s hb
    obtain rfl := Option.some.inj h
    obtain ⟨h1, h2, h3⟩ := begins_back t [] [] hb trivial
    refine ⟨h1, ?_, fun j x hx => by simpa using h3 j x hx⟩
    have := h2.1
    simp at this; omega
  · cases h

/-- may a kind be the i-th part of another one? -/
def exprK (k : Int) : Bool := decide (1 ≤ k ∧ k ≤ 17)
def stmtK (k : Int) : Bool := decide (20 ≤ k ∧ k ≤ 32 ∧ k ≠ 22)
def mayN (k : Int) (i : Nat) (q : Int) : Bool :=
  if exprK k = true ∨ k = 20 ∨ k = 32 ∨ k = 22 then exprK q
  else if k = 26 then (if i = 0 then decide (q = 20 ∨ q = 22 ∨ q = 33) else if i = 3 then stmtK q else exprK q || decide (q = 33))
  else if k = 21 then stmtK q || decide (q = 22)
  else if k = 25 then (if i = 0 then stmtK q else exprK q)
  else if k = 23 ∨ k = 24 ∨ k = 27 ∨ k = 28 then (if i = 0 then exprK q else stmtK q)
  else stmtK q
def kindAt (t : List Nd) (k : Nat) : Int := (t[k]?.map Nd.kind).getD 0
def partsAt (t : List Nd) (fr : List Nat) (k : Nat) : List Nat := partsE fr ((t[k]?.map fun x => x.n.toNat).getD 0) k
/-- an open if -/
def openF (t : List Nd) (fr : List Nat) : Nat → Nat → Bool
  | 0, _ => false
  | m + 1, k =>
    let p := partsAt t fr k
    if kindAt t k = 23 then decide (p.length = 2) || openF t fr m (p.getD 2 0)
    else if kindAt t k = 24 ∨ kindAt t k = 26 ∨ kindAt t k = 27 ∨ kindAt t k = 28 ∨ kindAt t k = 29 then openF t fr m (p.getD (p.length - 1) 0)
    else false
def openN (t : List Nd) (fr : List Nat) (k : Nat) : Bool := openF t fr (k + 1) k
def mayAll (t : List Nd) (k : Int) : Nat → List Nat → Bool
  | _, [] => true
  | i, p :: l => mayN k i (kindAt t p) && mayAll t k (i + 1) l
def fitsN (t : List Nd) (fr : List Nat) (k : Nat) : Bool :=
  mayAll t (kindAt t k) 0 (partsAt t fr k) && (decide (kindAt t k ≠ 23) || (decide ((partsAt t fr k).length < 3) || !openN t fr ((partsAt t fr k).getD 1 0)))
/-- how deep; st: how deep the parts are that wait, the last one first -/
def deepF : List Nd → List Nat → List Nat
  | [], st => st
  | x :: l, st => deepF l (((st.take x.n.toNat).foldl max 0 + 1) :: st.drop x.n.toNat)
def deepN (t : List Nd) : Nat := (deepF t []).getD 0 0
/-- what is wrong with a tree -/
def checkN9 (t : List Nd) : Int :=
  if 4096 < t.length then 3
  else if t.all wellN = false then 90
  else match beginsN t with
    | none => 90
    | some fr => if (List.range t.length).all (fitsN t fr) = false then 90 else if 48 < deepN t then 3 else 0
end Go.Proofs.YtlcfejgjeljjdaaGreatDoor
namespace Go.Proofs.YtlcfejgjeljjdaaGreatDoor

theorem partsE_length (fr : List Nat) : ∀ (n e : Nat), (partsE fr n e).length = n
  | 0, _ => rfl
  | n + 1, e => by rw [partsE, List.length_append, partsE_length fr n]; rfl
theorem partsE_lt {fr : List Nat} : ∀ {n e : Nat}, Back fr n e → ∀ p ∈ partsE fr n e, p < e
  | 0, _, _, p, hp => by rw [partsE] at hp; cases hp
  | n + 1, e, ⟨h1, h2, h3⟩, p, hp => by
    rw [partsE] at hp
    rcases List.mem_append.1 hp with hp | hp
    · have := partsE_lt h3 p hp; omega
    · obtain rfl := List.mem_singleton.1 hp; omega
/-- parts of a node that is there -/
theorem partsAt_is {t : List Nd} {fr : List Nat} {k : Nat} {x : Nd} (hx : t[k]? = some x) : partsAt t fr k = partsE fr x.n.toNat k := by unfold partsAt; rw [hx]; rfl
theorem kindAt_is {t : List Nd} {k : Nat} {x : Nd} (hx : t[k]? = some x) : kindAt t k = x.kind := by unfold kindAt; rw [hx]; rfl
theorem Formed.parts_lt {t : List Nd} {fr : List Nat} (h : Formed t fr) {k p : Nat} (hp : p ∈ partsAt t fr k) : p < k := by
  unfold partsAt at hp
  cases hx : t[k]? with
  | none => rw [hx] at hp; simp [partsE] at hp
  | some x =>
    rw [hx] at hp
    exact partsE_lt (h.node k x hx).2.1 p hp
/-- a well formed tree's nodes, right by themselves: how many parts there are -/
theorem well_parts {x : Nd} (h : wellN x = true) : (arityN x.kind).1 ≤ x.n ∧ x.n ≤ (arityN x.kind).2 ∧ 0 ≤ (arityN x.kind).1 := by
  unfold wellN sizeOk at h
  simp only [Bool.and_eq_true, decide_eq_true_eq] at h
  exact ⟨h.1.2.1, h.1.2.2.1, h.1.1⟩
theorem openF_more {t : List Nd} {fr : List Nat} (h : Formed t fr) (hw : ∀ (k : Nat) x, t[k]? = some x → wellN x = true) : ∀ (m k : Nat), k < t.length → k < m → openF t fr m k = openF t fr (k + 1) k
  | 0, k, _, hk => by omega
  | m + 1, k, hl, hk => by
    have hx := List.getElem?_eq_getElem hl
    have hwx := well_parts (hw k _ hx)
    rw [openF, openF]
    have hpl : (partsAt t fr k).length = t[k].n.toNat := by rw [partsAt_is hx, partsE_length]
    have hkd := kindAt_is hx
    have key : ∀ i, i < (partsAt t fr k).length → openF t fr m ((partsAt t fr k).getD i 0) = openF t fr k ((partsAt t fr k).getD i 0) := fun i hi => by
      have hm : (partsAt t fr k).getD i 0 ∈ partsAt t fr k := by
        rw [List.getD_eq_getElem?_getD, List.getElem?_eq_getElem hi]
        exact List.getElem_mem hi
      have hlt := h.parts_lt hm
      rw [openF_more h hw m _ (by omega) (by omega), openF_more h hw k _ (by omega) hlt]
    by_cases h23 : kindAt t k = 23
    · rw [if_pos h23, if_pos h23]
      by_cases h2 : (partsAt t fr k).length = 2
      · simp [h2]
      · have : 2 < (partsAt t fr k).length := by
          rw [hkd] at h23
          rw [h23] at hwx
          have : arityN 23 = (2, 3) := by decide
          rw [this] at hwx
          rw [hpl] at h2 ⊢
          simp only at hwx
          omega
        rw [key 2 this]
    · rw [if_neg h23, if_neg h23]
      split
      · rename_i hk5
        have : 0 < (partsAt t fr k).length := by
          have ha : 1 ≤ (arityN t[k].kind).1 := by
            rw [hkd] at hk5
            rcases hk5 with e | e | e | e | e <;> rw [e] <;> decide
          rw [hpl]
          omega
        rw [key _ (by omega)]
      · rfl
theorem open_if {t : List Nd} {fr : List Nat} (h : Formed t fr) (hw : ∀ (k : Nat) x, t[k]? = some x → wellN x = true) {k : Nat} (hl : k < t.length) (h23 : kindAt t k = 23) : openN t fr k = (decide ((partsAt t fr k).length = 2) || (decide (2 < (partsAt t fr k).length) && openN t fr ((partsAt t fr k).getD 2 0))) := by
  unfold openN
  rw [openF]
  rw [if_pos h23]
  by_cases h2 : (partsAt t fr k).length = 2
  · simp [h2]
  · have hx := List.getElem?_eq_getElem hl
    have hwx := well_parts (hw k _ hx)
    have hpl : (partsAt t fr k).length = t[k].n.toNat := by rw [partsAt_is hx, partsE_length]
    have h3 : 2 < (partsAt t fr k).length := by
      rw [kindAt_is hx] at h23
      rw [h23, show arityN 23 = (2, 3) by decide] at hwx
      rw [hpl] at h2 ⊢
      simp only at hwx
      omega
    have hm : (partsAt t fr k).getD 2 0 ∈ partsAt t fr k := by
      rw [List.getD_eq_getElem?_getD, List.getElem?_eq_getElem h3]
      exact List.getElem_mem h3
    have hlt := h.parts_lt hm
    rw [openF_more h hw k _ (by omega) hlt]
    simp [h2, h3]
theorem open_last {t : List Nd} {fr : List Nat} (h : Formed t fr) (hw : ∀ (k : Nat) x, t[k]? = some x → wellN x = true) {k : Nat} (hl : k < t.length) (h5 : kindAt t k = 24 ∨ kindAt t k = 26 ∨ kindAt t k = 27 ∨ kindAt t k = 28 ∨ kindAt t k = 29) :
    0 < (partsAt t fr k).length ∧ openN t fr k = openN t fr ((partsAt t fr k).getD ((partsAt t fr k).length - 1) 0) := by
  have hx := List.getElem?_eq_getElem hl
  have hwx := well_parts (hw k _ hx)
  have hpl : (partsAt t fr k).length = t[k].n.toNat := by rw [partsAt_is hx, partsE_length]
  have h0 : 0 < (partsAt t fr k).length := by
    have ha : 1 ≤ (arityN t[k].kind).1 := by
      have := h5
      rw [kindAt_is hx] at this
      rcases this with e | e | e | e | e <;> rw [e] <;> decide
    rw [hpl]; omega
  have hm : (partsAt t fr k).getD ((partsAt t fr k).length - 1) 0 ∈ partsAt t fr k := by
    rw [List.getD_eq_getElem?_getD, List.getElem?_eq_getElem (by omega)]
    exact List.getElem_mem _
  refine ⟨h0, ?_⟩
  unfold openN
  rw [openF]
  rw [if_neg (by omega), if_pos h5, openF_more h hw k _ (by have := h.parts_lt hm; omega) (h.parts_lt hm)]
theorem open_no {t : List Nd} {fr : List Nat} {k : Nat} (h : kindAt t k ≠ 23 ∧ kindAt t k ≠ 24 ∧ kindAt t k ≠ 26 ∧ kindAt t k ≠ 27 ∧ kindAt t k ≠ 28 ∧ kindAt t k ≠ 29) : openN t fr k = false := by
  unfold openN
  rw [openF]
  rw [if_neg (by omega), if_neg (by omega)]
end Go.Proofs.YtlcfejgjeljjdaaGreatDoor
namespace Go.Proofs.YtlcfejgjeljjdaaGreatDoor

/-- where the first of n parts begins, the last of which ends ahead of e -/
def startE (fr : List Nat) : Nat → Nat → Nat
  | 0, e => e
  | n + 1, e => startE fr n (fr.getD (e - 1) 0)
theorem Ends.start {fr : List Nat} : ∀ {st : List Nat} {e n : Nat}, Ends fr st e → n ≤ st.length → startE fr n e = if 0 < n then st.getD (n - 1) 0 else e
  | _, _, 0, _, _ => rfl
  | [], _, n + 1, _, h => by simp at h
  | s :: st, e, n + 1, ⟨_, h2, h3⟩, h => by
    rw [startE, h2, Ends.start h3 (by simpa using h), if_pos (Nat.succ_pos n)]
    cases n with
    | zero => rfl
    | succ n => rw [if_pos (Nat.succ_pos n), Nat.add_sub_cancel, Nat.add_sub_cancel]; rfl
theorem begins_start : ∀ (l : List Nd) (pre : List Nat) (st : List Nat) {f st' : List Nat}, beginsF l pre.length st = some (f, st') → Ends pre st pre.length →
    ∀ (j : Nat) x, l[j]? = some x → startE (pre ++ f) x.n.toNat (pre.length + j) = (pre ++ f).getD (pre.length + j) 0
  | [], _, _, _, _, _, _ => fun j x hx => by simp at hx
  | x :: l, pre, st, f, st', h, he => by
    have hfull := begins_back (x :: l) pre st h he
    rw [beginsF] at h
    split at h
    · cases h
    · rename_i hn
      simp only [Option.map_eq_some_iff] at h
      obtain ⟨⟨g, st2⟩, hg, e⟩ := h
      obtain ⟨rfl, rfl⟩ := Prod.mk.inj e
      simp only at hg ⊢
      generalize ha : (if 0 < x.n then st.getD (x.n.toNat - 1) 0 else pre.length) = a at *
      have hle : x.n.toNat ≤ st.length := by omega
      have ha1 : a ≤ pre.length := by
        rw [← ha]
        split
        · exact Nat.le_of_lt (he.lt _ (by omega))
        · exact Nat.le_refl _
      have he2 : Ends (pre ++ [a]) (a :: st.drop x.n.toNat) (pre ++ [a]).length := by
        refine ⟨by simp; omega, by simp, ?_⟩
        by_cases h0 : 0 < x.n
        · rw [if_pos h0] at ha
          rw [← ha]
          exact (he.drop x.n.toNat (by omega) hle).app (by rw [ha]; exact ha1)
        · rw [if_neg h0] at ha
          have : x.n.toNat = 0 := by omega
          rw [this, ← ha]
          simpa using he.app (Nat.le_refl _)
      have hl1 : (pre ++ [a]).length = pre.length + 1 := by simp
      have h3 := begins_start l (pre ++ [a]) _ (by rw [hl1]; exact hg) he2
      have hap : pre ++ [a] ++ g = pre ++ a :: g := by simp
      rw [hap, hl1] at h3
      intro j y hy
      cases j with
      | zero =>
        obtain rfl := Option.some.inj hy
        have h4 := (he.app (g := a :: g) (Nat.le_refl _)).start (n := x.n.toNat) hle
        rw [Nat.add_zero, h4]
        have h5 : (pre ++ a :: g).getD pre.length 0 = a := by rw [List.getD_eq_getElem?_getD, List.getElem?_append_right (Nat.le_refl _), Nat.sub_self]; rfl
        rw [h5, ← ha]
        by_cases h0 : 0 < x.n
        · rw [if_pos (by omega), if_pos h0]
        · rw [if_neg (by omega), if_neg h0]
      | succ j =>
        have := h3 j y (by simpa using hy)
        rw [show pre.length + (j + 1) = pre.length + 1 + j by omega]
        exact this
theorem start_of {t : List Nd} {fr : List Nat} (h : beginsN t = some fr) {j : Nat} {x : Nd} (hx : t[j]? = some x) : startE fr x.n.toNat j = fr.getD j 0 := by
  unfold beginsN at h
  split at h
  · rename_i f s hb
    obtain rfl := Option.some.inj h
    have := begins_start t [] [] hb trivial j x hx
    simpa using this
  · cases h
/-- so many nodes are in the parts -/
theorem back_sum {fr : List Nat} : ∀ {n e : Nat}, Back fr n e → startE fr n e ≤ e ∧ ((partsE fr n e).map fun p => p + 1 - fr.getD p 0).sum = e - startE fr n e
  | 0, e, _ => ⟨Nat.le_refl _, by simp [partsE, startE]⟩
  | n + 1, e, ⟨h1, h2, h3⟩ => by
    obtain ⟨a, b⟩ := back_sum h3
    refine ⟨by rw [startE]; omega, ?_⟩
    rw [partsE, List.map_append, List.sum_append, b, startE]
    simp only [List.map_cons, List.map_nil, List.sum_cons, List.sum_nil]
    omega

end Go.Proofs.YtlcfejgjeljjdaaGreatDoor
