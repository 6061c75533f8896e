/- Trees: nodes behind their parts; where a part begins, what its parts are, whether they fit, how deep it is. Plain: nothing of the program. · Trees: what is so of parts, of open ifs, of depths. Plain: nothing of the program. · Going over a tree: each place once, a whole ahead of its parts. Plain: nothing of the program. · An argument that is a slice, opened by its elements. -/
import Derived.Test.YtkokdafkjjcgoaaGreatDoorMg9
import Derived.Test.YtkokdafkjjcgoaaGreatDoorChecked
import Derived.Test.YtkokdafkjjcgoaaGreatDoorMg1
import Derived.Deep.Slices
import Derived.ProofKit
import Derived.OpenShut
namespace Go.Proofs.YtkokdafkjjcgoaaGreatDoor

structure Nd where
  kind : Int
  n : Int
  at_ : Int
  int : Int
  text : ByteArray
  type : ByteArray
/-- least and most parts -/
def arityN (k : Int) : Int × Int :=
  if k = 1 ∨ k = 2 ∨ k = 3 ∨ k = 17 ∨ k = 30 ∨ k = 31 ∨ k = 33 then (0, 0)
  else if k = 4 ∨ k = 5 ∨ k = 6 ∨ k = 13 ∨ k = 14 ∨ k = 15 ∨ k = 16 ∨ k = 20 ∨ k = 29 then (1, 1)
  else if k = 7 ∨ k = 8 ∨ k = 10 ∨ k = 12 ∨ k = 24 ∨ k = 25 ∨ k = 27 ∨ k = 28 then (2, 2)
  else if k = 9 then (3, 3)
  else if k = 26 then (4, 4)
  else if k = 11 then (1, 9)
  else if k = 21 then (0, 4096)
  else if k = 22 ∨ k = 32 then (0, 1)
  else if k = 23 then (2, 3)
  else (-1, -1)
/-- a type that may stand in a tree -/
def typedS (s : ByteArray) : Bool := decide (checkS [] s = 0 ∨ checkS [] s = 4)
def objectS (s : ByteArray) : Bool := (tyS s).any objectT
def marksB : List ByteArray := [⟨#[42]⟩, ⟨#[47]⟩, ⟨#[37]⟩, ⟨#[43]⟩, ⟨#[45]⟩, ⟨#[60, 60]⟩, ⟨#[62, 62]⟩, ⟨#[60]⟩, ⟨#[62]⟩, ⟨#[60, 61]⟩, ⟨#[62, 61]⟩, ⟨#[61, 61]⟩, ⟨#[33, 61]⟩, ⟨#[38]⟩, ⟨#[94]⟩, ⟨#[124]⟩, ⟨#[38, 38]⟩, ⟨#[124, 124]⟩]
def marksN (k : Int) : List ByteArray :=
  if k = 4 then [⟨#[45]⟩, ⟨#[126]⟩, ⟨#[33]⟩, ⟨#[38]⟩, ⟨#[42]⟩]
  else if k = 5 ∨ k = 6 then [⟨#[43, 43]⟩, ⟨#[45, 45]⟩]
  else if k = 7 then marksB
  else if k = 8 then [⟨#[61]⟩, ⟨#[42, 61]⟩, ⟨#[47, 61]⟩, ⟨#[37, 61]⟩, ⟨#[43, 61]⟩, ⟨#[45, 61]⟩, ⟨#[60, 60, 61]⟩, ⟨#[62, 62, 61]⟩, ⟨#[38, 61]⟩, ⟨#[94, 61]⟩, ⟨#[124, 61]⟩]
  else []
def noText (s : ByteArray) : Bool := decide (s.size = 0)
def numberN (x : Nd) : Bool := if x.type = ⟨#[117]⟩ then decide (0 ≤ x.int ∧ x.int < 4294967296) else decide (x.type = ⟨#[105]⟩) && decide (-128 ≤ x.int ∧ x.int < 2147483648)
/-- parts and place -/
def sizeOk (x : Nd) : Bool := decide (0 ≤ (arityN x.kind).1 ∧ (arityN x.kind).1 ≤ x.n ∧ x.n ≤ (arityN x.kind).2 ∧ 0 ≤ x.at_ ∧ x.at_ ≤ 65536)
def intOk (x : Nd) : Bool := decide (x.int = 0 ∨ (x.kind = 22 ∧ x.int = 1))
/-- text and type, by kind -/
def bodyOk (x : Nd) : Bool :=
  if x.kind = 2 then decide (x.text.size ≤ 4096) && noText x.type
  else if x.kind = 3 ∨ x.kind = 13 ∨ x.kind = 14 then isNameB x.text && noText x.type
  else if x.kind = 22 then isNameB x.text && (typedS x.type && objectS x.type)
  else if x.kind = 4 ∨ x.kind = 5 ∨ x.kind = 6 ∨ x.kind = 7 ∨ x.kind = 8 then Lib.containsS (marksN x.kind) x.text && noText x.type
  else if x.kind = 15 ∨ x.kind = 17 then noText x.text && typedS x.type
  else noText x.text && noText x.type
/-- a node that is right by itself -/
def wellN (x : Nd) : Bool := sizeOk x && (if x.kind = 1 then numberN x && noText x.text else intOk x && bodyOk x)

/-- of each node where its part begins; st: where the parts begin that wait, the last one first -/
def beginsF : List Nd → Nat → List Nat → Option (List Nat × List Nat)
  | [], _, st => some ([], st)
  | x :: l, i, st =>
    if x.n < 0 ∨ (st.length : Int) < x.n then none
    else
      let a := if 0 < x.n then st.getD (x.n.toNat - 1) 0 else i
      (beginsF l (i + 1) (a :: st.drop x.n.toNat)).map fun r => (a :: r.1, r.2)
def beginsN (t : List Nd) : Option (List Nat) := match beginsF t 0 [] with
  | some (f, [_]) => some f
  | _ => none
/-- the places of n parts, the last of which ends ahead of e -/
def partsE (fr : List Nat) : Nat → Nat → List Nat
  | 0, _ => []
  | n + 1, e => partsE fr n (fr.getD (e - 1) 0) ++ [e - 1]
/-- there are so many parts ahead of e -/
def Back (fr : List Nat) : Nat → Nat → Prop
  | 0, _ => True
  | n + 1, e => 0 < e ∧ fr.getD (e - 1) 0 < e ∧ Back fr n (fr.getD (e - 1) 0)
/-- the parts that wait end ahead of e -/
def Ends (fr : List Nat) : List Nat → Nat → Prop
  | [], _ => True
  | s :: st, e => s < e ∧ fr.getD (e - 1) 0 = s ∧ Ends fr st s
theorem Ends.back {fr : List Nat} : ∀ {st : List Nat} {e n : Nat}, Ends fr st e → n ≤ st.length → Back fr n e
  | _, _, 0, _, _ => trivial
  | [], _, n + 1, _, h => by simp at h
  | s :: st, e, n + 1, ⟨h1, h2, h3⟩, h => ⟨by omega, by omega, by rw [h2]; exact Ends.back h3 (by simpa using h)⟩
theorem getD_app {fr g : List Nat} {k : Nat} (h : k < fr.length) : (fr ++ g).getD k 0 = fr.getD k 0 := by
  rw [List.getD_eq_getElem?_getD, List.getD_eq_getElem?_getD, List.getElem?_append_left h]
theorem Ends.app {fr g : List Nat} : ∀ {st : List Nat} {e : Nat}, e ≤ fr.length → Ends fr st e → Ends (fr ++ g) st e
  | [], _, _, _ => trivial
  | s :: st, e, he, ⟨h1, h2, h3⟩ => ⟨h1, by rw [getD_app (by omega)]; exact h2, Ends.app (by omega) h3⟩
theorem Ends.drop {fr : List Nat} : ∀ {st : List Nat} {e : Nat} (n : Nat), Ends fr st e → 0 < n → n ≤ st.length → Ends fr (st.drop n) (st.getD (n - 1) 0)
  | [], _, n, _, h0, h => by simp at h; omega
  | s :: st, e, n + 1, ⟨h1, h2, h3⟩, _, h => by
    cases n with
    | zero => simpa using h3
    | succ n =>
      have := Ends.drop (n + 1) h3 (by omega) (by simpa using h)
      simpa using this
theorem Ends.lt {fr : List Nat} : ∀ {st : List Nat} {e : Nat} (n : Nat), Ends fr st e → n < st.length → st.getD n 0 < e
  | [], _, n, _, h => by simp at h
  | s :: st, e, 0, ⟨h1, _, _⟩, _ => by simpa using h1
  | s :: st, e, n + 1, ⟨h1, _, h3⟩, h => by
    have := Ends.lt n h3 (by simpa using h)
    simp only [List.getD_cons_succ]
    omega
/-- what is so of each node: its parts are there -/
theorem begins_back : ∀ (l : List Nd) (pre : List Nat) (st : List Nat) {f st' : List Nat}, beginsF l pre.length st = some (f, st') → Ends pre st pre.length →
    f.length = l.length ∧ Ends (pre ++ f) st' (pre.length + l.length) ∧ ∀ (j : Nat) x, l[j]? = some x → 0 ≤ x.n ∧ Back (pre ++ f) x.n.toNat (pre.length + j) ∧ (pre ++ f).getD (pre.length + j) 0 ≤ pre.length + j
  | [], pre, st, f, st', h, he => by
    rw [beginsF] at h
    obtain ⟨rfl, rfl⟩ := Prod.mk.inj (Option.some.inj h)
    exact ⟨rfl, by simpa using he, fun j x hx => by simp at hx⟩
  | x :: l, pre, st, f, st', h, he => by
    rw [beginsF] at h
    split at h
    · cases h
    · rename_i hn
      simp only [Option.map_eq_some_iff] at h
      obtain ⟨⟨g, st2⟩, hg, e⟩ := h
      obtain ⟨rfl, rfl⟩ := Prod.mk.inj e
      simp only at hg ⊢
      generalize ha : (if 0 < x.n then st.getD (x.n.toNat - 1) 0 else pre.length) = a at *
      have hle : x.n.toNat ≤ st.length := by omega
      have ha1 : a ≤ pre.length := by
        rw [← ha]
        split
        · exact Nat.le_of_lt (he.lt _ (by omega))
        · exact Nat.le_refl _
      have he2 : Ends (pre ++ [a]) (a :: st.drop x.n.toNat) (pre ++ [a]).length := by
        refine ⟨by simp; omega, by simp, ?_⟩
        by_cases h0 : 0 < x.n
        · rw [if_pos h0] at ha
          rw [← ha]
          exact (he.drop x.n.toNat (by omega) hle).app (by rw [ha]; exact ha1)
        · rw [if_neg h0] at ha
          have : x.n.toNat = 0 := by omega
          rw [this, ← ha]
          simpa using he.app (Nat.le_refl _)
      have hl1 : (pre ++ [a]).length = pre.length + 1 := by simp
      obtain ⟨h1, h2, h3⟩ := begins_back l (pre ++ [a]) _ (by rw [hl1]; exact hg) he2
      have hap : pre ++ [a] ++ g = pre ++ a :: g := by simp
      rw [hap, hl1] at h2 h3
      refine ⟨by simp [h1], by rw [show pre.length + (x :: l).length = pre.length + 1 + l.length by simp; omega]; exact h2, fun j y hy => ?_⟩
      cases j with
      | zero =>
        obtain rfl := Option.some.inj hy
        refine ⟨by omega, ?_, ?_⟩
        · have := (he.app (g := a :: g) (Nat.le_refl _)).back (n := x.n.toNat) hle
          simpa using this
        · rw [List.getD_eq_getElem?_getD, Nat.add_zero, List.getElem?_append_right (Nat.le_refl _), Nat.sub_self]
          exact ha1
      | succ j =>
        have := h3 j y (by simpa using hy)
        rw [show pre.length + (j + 1) = pre.length + 1 + j by omega]
        exact this
/-- a list of nodes that is well formed, and where its parts begin -/
structure Formed (t : List Nd) (fr : List Nat) : Prop where
  len : fr.length = t.length
  pos : 0 < t.length
  node : ∀ (j : Nat) x, t[j]? = some x → 0 ≤ x.n ∧ Back fr x.n.toNat j ∧ fr.getD j 0 ≤ j
theorem formed_of {t : List Nd} {fr : List Nat} (h : beginsN t = some fr) : Formed t fr := by
  unfold beginsN at h
  split at h
  · rename_i f s hb
    obtain rfl := Option.some.inj h
    obtain ⟨h1, h2, h3⟩ := begins_back t [] [] hb trivial
    refine ⟨h1, ?_, fun j x hx => by simpa using h3 j x hx⟩
    have := h2.1
    simp at this; omega
  · cases h

/-- may a kind be the i-th part of another one? -/
def exprK (k : Int) : Bool := decide (1 ≤ k ∧ k ≤ 17)
def stmtK (k : Int) : Bool := decide (20 ≤ k ∧ k ≤ 32 ∧ k ≠ 22)
def mayN (k : Int) (i : Nat) (q : Int) : Bool :=
  if exprK k = true ∨ k = 20 ∨ k = 32 ∨ k = 22 then exprK q
  else if k = 26 then (if i = 0 then decide (q = 20 ∨ q = 22 ∨ q = 33) else if i = 3 then stmtK q else exprK q || decide (q = 33))
  else if k = 21 then stmtK q || decide (q = 22)
  else if k = 25 then (if i = 0 then stmtK q else exprK q)
  else if k = 23 ∨ k = 24 ∨ k = 27 ∨ k = 28 then (if i = 0 then exprK q else stmtK q)
  else stmtK q
def kindAt (t : List Nd) (k : Nat) : Int := (t[k]?.map Nd.kind).getD 0
def partsAt (t : List Nd) (fr : List Nat) (k : Nat) : List Nat := partsE fr ((t[k]?.map fun x => x.n.toNat).getD 0) k
/-- an open if -/
def openF (t : List Nd) (fr : List Nat) : Nat → Nat → Bool
  | 0, _ => false
  | m + 1, k =>
    let p := partsAt t fr k
    if kindAt t k = 23 then decide (p.length = 2) || openF t fr m (p.getD 2 0)
    else if kindAt t k = 24 ∨ kindAt t k = 26 ∨ kindAt t k = 27 ∨ kindAt t k = 28 ∨ kindAt t k = 29 then openF t fr m (p.getD (p.length - 1) 0)
    else false
def openN (t : List Nd) (fr : List Nat) (k : Nat) : Bool := openF t fr (k + 1) k
def mayAll (t : List Nd) (k : Int) : Nat → List Nat → Bool
  | _, [] => true
  | i, p :: l => mayN k i (kindAt t p) && mayAll t k (i + 1) l
def fitsN (t : List Nd) (fr : List Nat) (k : Nat) : Bool :=
  mayAll t (kindAt t k) 0 (partsAt t fr k) && (decide (kindAt t k ≠ 23) || (decide ((partsAt t fr k).length < 3) || !openN t fr ((partsAt t fr k).getD 1 0)))
/-- how deep; st: how deep the parts are that wait, the last one first -/
def deepF : List Nd → List Nat → List Nat
  | [], st => st
  | x :: l, st => deepF l (((st.take x.n.toNat).foldl max 0 + 1) :: st.drop x.n.toNat)
def deepN (t : List Nd) : Nat := (deepF t []).getD 0 0
/-- what is wrong with a tree -/
def checkN9 (t : List Nd) : Int :=
  if 4096 < t.length then 3
  else if t.all wellN = false then 90
  else match beginsN t with
    | none => 90
    | some fr => if (List.range t.length).all (fitsN t fr) = false then 90 else if 48 < deepN t then 3 else 0
end Go.Proofs.YtkokdafkjjcgoaaGreatDoor
namespace Go.Proofs.YtkokdafkjjcgoaaGreatDoor

theorem partsE_length (fr : List Nat) : ∀ (n e : Nat), (partsE fr n e).length = n
  | 0, _ => rfl
  | n + 1, e => by rw [partsE, List.length_append, partsE_length fr n]; rfl
theorem partsE_lt {fr : List Nat} : ∀ {n e : Nat}, Back fr n e → ∀ p ∈ partsE fr n e, p < e
  | 0, _, _, p, hp => by rw [partsE] at hp; cases hp
  | n + 1, e, ⟨h1, h2, h3⟩, p, hp => by
    rw [partsE] at hp
    rcases List.mem_append.1 hp with hp | hp
    · have := partsE_lt h3 p hp; omega
    · obtain rfl := List.mem_singleton.1 hp; omega
/-- parts of a node that is there -/
theorem partsAt_is {t : List Nd} {fr : List Nat} {k : Nat} {x : Nd} (hx : t[k]? = some x) : partsAt t fr k = partsE fr x.n.toNat k := by unfold partsAt; rw [hx]; rfl
theorem kindAt_is {t : List Nd} {k : Nat} {x : Nd} (hx : t[k]? = some x) : kindAt t k = x.kind := by unfold kindAt; rw [hx]; rfl
theorem Formed.parts_lt {t : List Nd} {fr : List Nat} (h : Formed t fr) {k p : Nat} (hp : p ∈ partsAt t fr k) : p < k := by
  unfold partsAt at hp
  cases hx : t[k]? with
  | none => rw [hx] at hp; simp [partsE] at hp
  | some x =>
    rw [hx] at hp
    exact partsE_lt (h.node k x hx).2.1 p hp
/-- a well formed tree's nodes, right by themselves: how many parts there are -/
theorem well_parts {x : Nd} (h : wellN x = true) : (arityN x.kind).1 ≤ x.n ∧ x.n ≤ (arityN x.kind).2 ∧ 0 ≤ (arityN x.kind).1 := by
  unfold wellN sizeOk at h
  simp only [Bool.and_eq_true, decide_eq_true_eq] at h
  exact ⟨h.1.2.1, h.1.2.2.1, h.1.1⟩
theorem openF_more {t : List Nd} {fr : List Nat} (h : Formed t fr) (hw : ∀ (k : Nat) x, t[k]? = some x → wellN x = true) : ∀ (m k : Nat), k < t.length → k < m → openF t fr m k = openF t fr (k + 1) k
  | 0, k, _, hk => by omega
  | m + 1, k, hl, hk => by
    have hx := List.getElem?_eq_getElem hl
    have hwx := well_parts (hw k _ hx)
    rw [openF, openF]
    have hpl : (partsAt t fr k).length = t[k].n.toNat := by rw [partsAt_is hx, partsE_length]
    have hkd := kindAt_is hx
    have key : ∀ i, i < (partsAt t fr k).length → openF t fr m ((partsAt t fr k).getD i 0) = openF t fr k ((partsAt t fr k).getD i 0) := fun i hi => by
      have hm : (partsAt t fr k).getD i 0 ∈ partsAt t fr k := by
        rw [List.getD_eq_getElem?_getD, List.getElem?_eq_getElem hi]
        exact List.getElem_mem hi
      have hlt := h.parts_lt hm
      rw [openF_more h hw m _ (by omega) (by omega), openF_more h hw k _ (by omega) hlt]
    by_cases h23 : kindAt t k = 23
    · rw [if_pos h23, if_pos h23]
      by_cases h2 : (partsAt t fr k).length = 2
      · simp [h2]
      · have : 2 < (partsAt t fr k).length := by
          rw [hkd] at h23
          rw [h23] at hwx
          have : arityN 23 = (2, 3) := by decide
          rw [this] at hwx
          rw [hpl] at h2 ⊢
          simp only at hwx
          omega
        rw [key 2 this]
    · rw [if_neg h23, if_neg h23]
      split
      · rename_i hk5
        have : 0 < (partsAt t fr k).length := by
          have ha : 1 ≤ (arityN t[k].kind).1 := by
            rw [hkd] at hk5
            rcases hk5 with e | e | e | e | e <;> rw [e] <;> decide
          rw [hpl]
          omega
        rw [key _ (by omega)]
      · rfl
theorem open_if {t : List Nd} {fr : List Nat} (h : Formed t fr) (hw : ∀ (k : Nat) x, t[k]? = some x → wellN x = true) {k : Nat} (hl : k < t.length) (h23 : kindAt t k = 23) : openN t fr k = (decide ((partsAt t fr k).length = 2) || (decide (2 < (partsAt t fr k).length) && openN t fr ((partsAt t fr k).getD 2 0))) := by
  unfold openN
  rw [openF]
  rw [if_pos h23]
  by_cases h2 : (partsAt t fr k).length = 2
  · simp [h2]
  · have hx := List.getElem?_eq_getElem hl
    have hwx := well_parts (hw k _ hx)
    have hpl : (partsAt t fr k).length = t[k].n.toNat := by rw [partsAt_is hx, partsE_length]
    have h3 : 2 < (partsAt t fr k).length := by
      rw [kindAt_is hx] at h23
      rw [h23, show arityN 23 = (2, 3) by decide] at hwx
      rw [hpl] at h2 ⊢
      simp only at hwx
      omega
    have hm : (partsAt t fr k).getD 2 0 ∈ partsAt t fr k := by
      rw [List.getD_eq_getElem?_getD, List.getElem?_eq_getElem h3]
      exact List.getElem_mem h3
    have hlt := h.parts_lt hm
    rw [openF_more h hw k _ (by omega) hlt]
    simp [h2, h3]
theorem open_last {t : List Nd} {fr : List Nat} (h : Formed t fr) (hw : ∀ (k : Nat) x, t[k]? = some x → wellN x = true) {k : Nat} (hl : k < t.length) (h5 : kindAt t k = 24 ∨ kindAt t k = 26 ∨ kindAt t k = 27 ∨ kindAt t k = 28 ∨ kindAt t k = 29) :
    0 < (partsAt t fr k).length ∧ openN t fr k = openN t fr ((partsAt t fr k).getD ((partsAt t fr k).length - 1) 0) := by
  have hx := List.getElem?_eq_getElem hl
  have hwx := well_parts (hw k _ hx)
  have hpl : (partsAt t fr k).length = t[k].n.toNat := by rw [partsAt_is hx, partsE_length]
  have h0 : 0 < (partsAt t fr k).length := by
    have ha : 1 ≤ (arityN t[k].kind).1 := by
      have := h5
      rw [kindAt_is hx] at this
      rcases this with e | e | e | e | e <;> rw [e] <;> decide
    rw [hpl]; omega
  have hm : (partsAt t fr k).getD ((partsAt t fr k).length - 1) 0 ∈ partsAt t fr k := by
    rw [List.getD_eq_getElem?_getD, List.getElem?_eq_getElem (by omega)]
    exact List.getElem_mem _
  refine ⟨h0, ?_⟩
  unfold openN
  rw [openF]
  rw [if_neg (by omega), if_pos h5, openF_more h hw k _ (by have := h.parts_lt hm; omega) (h.parts_lt hm)]
theorem open_no {t : List Nd} {fr : List Nat} {k : Nat} (h : kindAt t k ≠ 23 ∧ kindAt t k ≠ 24 ∧ kindAt t k ≠ 26 ∧ kindAt t k ≠ 27 ∧ kindAt t k ≠ 28 ∧ kindAt t k ≠ 29) : openN t fr k = false := by
  unfold openN
  rw [openF]
  rw [if_neg (by omega), if_neg (by omega)]
end Go.Proofs.YtkokdafkjjcgoaaGreatDoor
namespace Go.Proofs.YtkokdafkjjcgoaaGreatDoor

/-- where the first of n parts begins, the last of which ends ahead of e -/
def startE (fr : List Nat) : Nat → Nat → Nat
  | 0, e => e
  | n + 1, e => startE fr n (fr.getD (e - 1) 0)
theorem Ends.start {fr : List Nat} : ∀ {st : List Nat} {e n : Nat}, Ends fr st e → n ≤ st.length → startE fr n e = if 0 < n then st.getD (n - 1) 0 else e
  | _, _, 0, _, _ => rfl
  | [], _, n + 1, _, h => by simp at h
  | s :: st, e, n + 1, ⟨_, h2, h3⟩, h => by
    rw [startE, h2, Ends.start h3 (by simpa using h), if_pos (Nat.succ_pos n)]
    cases n with
    | zero => rfl
    | succ n => rw [if_pos (Nat.succ_pos n), Nat.add_sub_cancel, Nat.add_sub_cancel]; rfl
theorem begins_start : ∀ (l : List Nd) (pre : List Nat) (st : List Nat) {f st' : List Nat}, beginsF l pre.length st = some (f, st') → Ends pre st pre.length →
    ∀ (j : Nat) x, l[j]? = some x → startE (pre ++ f) x.n.toNat (pre.length + j) = (pre ++ f).getD (pre.length + j) 0
  | [], _, _, _, _, _, _ => fun j x hx => by simp at hx
  | x :: l, pre, st, f, st', h, he => by
    have hfull := begins_back (x :: l) pre st h he
    rw [beginsF] at h
    split at h
    · cases h
    · rename_i hn
      simp only [Option.map_eq_some_iff] at h
      obtain ⟨⟨g, st2⟩, hg, e⟩ := h
      obtain ⟨rfl, rfl⟩ := Prod.mk.inj e
      simp only at hg ⊢
      generalize ha : (if 0 < x.n then st.getD (x.n.toNat - 1) 0 else pre.length) = a at *
      have hle : x.n.toNat ≤ st.length := by omega
      have ha1 : a ≤ pre.length := by
        rw [← ha]
        split
        · exact Nat.le_of_lt (he.lt _ (by omega))
        · exact Nat.le_refl _
      have he2 : Ends (pre ++ [a]) (a :: st.drop x.n.toNat) (pre ++ [a]).length := by
        refine ⟨by simp; omega, by simp, ?_⟩
        by_cases h0 : 0 < x.n
        · rw [if_pos h0] at ha
          rw [← ha]
          exact (he.drop x.n.toNat (by omega) hle).app (by rw [ha]; exact ha1)
        · rw [if_neg h0] at ha
          have : x.n.toNat = 0 := by omega
          rw [this, ← ha]
          simpa using he.app (Nat.le_refl _)
      have hl1 : (pre ++ [a]).length = pre.length + 1 := by simp
      have h3 := begins_start l (pre ++ [a]) _ (by rw [hl1]; exact hg) he2
      have hap : pre ++ [a] ++ g = pre ++ a :: g := by simp
      rw [hap, hl1] at h3
      intro j y hy
      cases j with
      | zero =>
        obtain rfl := Option.some.inj hy
        have h4 := (he.app (g := a :: g) (Nat.le_refl _)).start (n := x.n.toNat) hle
        rw [Nat.add_zero, h4]
        have h5 : (pre ++ a :: g).getD pre.length 0 = a := by rw [List.getD_eq_getElem?_getD, List.getElem?_append_right (Nat.le_refl _), Nat.sub_self]; rfl
        rw [h5, ← ha]
        by_cases h0 : 0 < x.n
        · rw [if_pos (by omega), if_pos h0]
        · rw [if_neg (by omega), if_neg h0]
      | succ j =>
        have := h3 j y (by simpa using hy)
        rw [show pre.length + (j + 1) = pre.length + 1 + j by omega]
        exact this
theorem start_of {t : List Nd} {fr : List Nat} (h : beginsN t = some fr) {j : Nat} {x : Nd} (hx : t[j]? = some x) : startE fr x.n.toNat j = fr.getD j 0 := by
  unfold beginsN at h
  split at h
  · rename_i f s hb
    obtain rfl := Option.some.inj h
    have := begins_start t [] [] hb trivial j x hx
    simpa using this
  · cases h
/-- where all that waits begins -/
theorem begins_low : ∀ (l : List Nd) (i : Nat) (st : List Nat) {f st' : List Nat}, beginsF l i st = some (f, st') → (st ≠ [] → st.getLast? = some 0) → (st = [] → i = 0) → st' ≠ [] → st'.getLast? = some 0
  | [], i, st, f, st', h, h1, _, h3 => by
    rw [beginsF] at h
    obtain ⟨_, rfl⟩ := Prod.mk.inj (Option.some.inj h)
    exact h1 h3
  | x :: l, i, st, f, st', h, h1, h2, h3 => by
    rw [beginsF] at h
    split at h
    · cases h
    · rename_i hn
      simp only [Option.map_eq_some_iff] at h
      obtain ⟨⟨g, st2⟩, hg, e⟩ := h
      obtain ⟨_, rfl⟩ := Prod.mk.inj e
      refine begins_low l (i + 1) _ hg (fun _ => ?_) (fun h => by cases h) h3
      by_cases hs : st = []
      · subst hs
        have : x.n.toNat = 0 := by simp at hn; omega
        rw [this, if_neg (by simp at hn; omega), h2 rfl]
        rfl
      · have hl := h1 hs
        rcases Nat.lt_or_ge x.n.toNat st.length with h' | h'
        · have hd : st.drop x.n.toNat ≠ [] := by simp; omega
          rw [List.getLast?_cons_of_ne_nil hd, List.getLast?_drop, if_neg (by omega)]
          exact hl
        · have hd : st.drop x.n.toNat = [] := by simp; omega
          have hpos : 0 < st.length := List.length_pos_iff.2 hs
          rw [hd, if_pos (by omega)]
          rw [List.getLast?_eq_getElem?] at hl
          have e1 : x.n.toNat - 1 = st.length - 1 := by omega
          rw [List.getD_eq_getElem?_getD, e1, hl]
          rfl
/-- the whole, the last of all, begins at the beginning -/
theorem begins_ends {t : List Nd} {fr : List Nat} (h : beginsN t = some fr) : fr.getD (t.length - 1) 0 = 0 := by
  unfold beginsN at h
  split at h
  · rename_i f s hb
    obtain rfl := Option.some.inj h
    obtain ⟨_, h2, _⟩ := begins_back t [] [] hb trivial
    simp only [List.nil_append, List.length_nil, Nat.zero_add] at h2
    have h3 := begins_low t 0 [] hb (fun h => absurd rfl h) (fun _ => rfl) (by simp)
    simp at h3
    rw [h2.2.1, h3]
  · cases h
/-- so many nodes are in the parts -/
theorem back_sum {fr : List Nat} : ∀ {n e : Nat}, Back fr n e → startE fr n e ≤ e ∧ ((partsE fr n e).map fun p => p + 1 - fr.getD p 0).sum = e - startE fr n e
  | 0, e, _ => ⟨Nat.le_refl _, by simp [partsE, startE]⟩
  | n + 1, e, ⟨h1, h2, h3⟩ => by
    obtain ⟨a, b⟩ := back_sum h3
    refine ⟨by rw [startE]; omega, ?_⟩
    rw [partsE, List.map_append, List.sum_append, b, startE]
    simp only [List.map_cons, List.map_nil, List.sum_cons, List.sum_nil]
    omega

def walkF (t : List Nd) (fr : List Nat) : Nat → Nat → Nat → List (Nat × Nat)
  | 0, _, _ => []
  | m + 1, k, d => (k, d) :: (partsAt t fr k).flatMap fun p => walkF t fr m p (d + 1)
/-- places, and how deep they are: the part that ends at k -/
def walkN (t : List Nd) (fr : List Nat) (k d : Nat) : List (Nat × Nat) := walkF t fr (k + 1) k d
theorem flatMap_same {α β : Type} {f g : α → List β} : ∀ {l : List α}, (∀ x ∈ l, f x = g x) → l.flatMap f = l.flatMap g
  | [], _ => rfl
  | x :: l, h => by rw [List.flatMap_cons, List.flatMap_cons, h x (List.mem_cons_self ..), flatMap_same fun y hy => h y (List.mem_cons_of_mem _ hy)]
theorem walkF_more {t : List Nd} {fr : List Nat} (h : Formed t fr) : ∀ (m k d : Nat), k < m → walkF t fr m k d = walkF t fr (k + 1) k d
  | 0, k, _, hk => by omega
  | m + 1, k, d, hk => by
    rw [walkF, walkF]
    congr 1
    refine flatMap_same fun p hp => ?_
    have := h.parts_lt hp
    rw [walkF_more h m p _ (by omega), walkF_more h k p _ (by omega)]
theorem walkN_eq {t : List Nd} {fr : List Nat} (h : Formed t fr) (k d : Nat) : walkN t fr k d = (k, d) :: (partsAt t fr k).flatMap fun p => walkN t fr p (d + 1) := by
  unfold walkN
  rw [walkF]
  congr 1
  refine flatMap_same fun p hp => ?_
  rw [walkF_more h k p _ (h.parts_lt hp)]
theorem flatMap_len {α β : Type} {f : α → List β} {g : α → Nat} : ∀ {l : List α}, (∀ x ∈ l, (f x).length = g x) → (l.flatMap f).length = (l.map g).sum
  | [], _ => rfl
  | x :: l, h => by rw [List.flatMap_cons, List.length_append, h x (List.mem_cons_self ..), flatMap_len fun y hy => h y (List.mem_cons_of_mem _ hy)]; simp
/-- as many as there are nodes in the part -/
theorem walkN_len {t : List Nd} {fr : List Nat} (hb : beginsN t = some fr) : ∀ (m k d : Nat), k < m → k < t.length → (walkN t fr k d).length = k + 1 - fr.getD k 0
  | 0, k, _, hk, _ => by omega
  | m + 1, k, d, hk, hl => by
    have hF := formed_of hb
    have hx := List.getElem?_eq_getElem hl
    rw [walkN_eq hF, List.length_cons, flatMap_len (g := fun p => p + 1 - fr.getD p 0) (fun p hp => by
      have := hF.parts_lt hp
      exact walkN_len hb m p _ (by omega) (by omega))]
    obtain ⟨h0, hbk, hle⟩ := hF.node k _ hx
    rw [partsAt_is hx, (back_sum hbk).2, start_of hb hx]
    omega
theorem walkN_le {t : List Nd} {fr : List Nat} (hF : Formed t fr) : ∀ (m k d : Nat), k < m → ∀ x ∈ walkN t fr k d, x.1 ≤ k ∧ d ≤ x.2 ∧ x.2 + x.1 ≤ d + k
  | 0, k, _, hk, _, _ => by omega
  | m + 1, k, d, hk, x, hx => by
    rw [walkN_eq hF] at hx
    rcases List.mem_cons.1 hx with rfl | hx
    · exact ⟨Nat.le_refl _, Nat.le_refl _, by show d + k ≤ d + k; omega⟩
    · obtain ⟨p, hp, hx⟩ := List.mem_flatMap.1 hx
      have hpk := hF.parts_lt hp
      have := walkN_le hF m p (d + 1) (by omega) x hx
      omega
/-- how many places from lo on, ahead of hi, are so -/
def cntR (f : Nat → Bool) (lo hi : Nat) : Nat := (List.range' lo (hi - lo)).countP f
theorem cntR_add (f : Nat → Bool) {lo mid hi : Nat} (h1 : lo ≤ mid) (h2 : mid ≤ hi) : cntR f lo hi = cntR f lo mid + cntR f mid hi := by
  unfold cntR
  rw [← List.countP_append, show hi - lo = (mid - lo) + (hi - mid) by omega, ← List.range'_append_1 (m := mid - lo), show lo + (mid - lo) = mid by omega]
theorem cntR_one (f : Nat → Bool) (k : Nat) : cntR f k (k + 1) = if f k = true then 1 else 0 := by
  unfold cntR
  rw [show k + 1 - k = 1 by omega]
  simp [List.countP_cons]
theorem back_cnt {fr : List Nat} (f : Nat → Bool) : ∀ {n e : Nat}, Back fr n e → ((partsE fr n e).map fun p => cntR f (fr.getD p 0) (p + 1)).sum = cntR f (startE fr n e) e
  | 0, e, _ => by simp [partsE, startE, cntR]
  | n + 1, e, ⟨h1, h2, h3⟩ => by
    have hs := (back_sum h3).1
    rw [partsE, List.map_append, List.sum_append, back_cnt f h3, startE]
    simp only [List.map_cons, List.map_nil, List.sum_cons, List.sum_nil, Nat.add_zero]
    rw [show e - 1 + 1 = e by omega, ← cntR_add f hs (by omega)]
theorem flatMap_cnt {α β : Type} {f : α → List β} {p : β → Bool} {g : α → Nat} : ∀ {l : List α}, (∀ x ∈ l, (f x).countP p = g x) → (l.flatMap f).countP p = (l.map g).sum
  | [], _ => rfl
  | x :: l, h => by rw [List.flatMap_cons, List.countP_append, h x (List.mem_cons_self ..), flatMap_cnt fun y hy => h y (List.mem_cons_of_mem _ hy)]; simp
/-- each place once -/
theorem walk_cnt {t : List Nd} {fr : List Nat} (hb : beginsN t = some fr) (f : Nat → Bool) : ∀ (m k d : Nat), k < m → k < t.length → (walkN t fr k d).countP (fun x => f x.1) = cntR f (fr.getD k 0) (k + 1)
  | 0, k, _, hk, _ => by omega
  | m + 1, k, d, hk, hl => by
    have hF := formed_of hb
    have hx := List.getElem?_eq_getElem hl
    rw [walkN_eq hF, List.countP_cons, flatMap_cnt (g := fun p => cntR f (fr.getD p 0) (p + 1)) (fun p hp => by
      have := hF.parts_lt hp
      exact walk_cnt hb f m p _ (by omega) (by omega))]
    obtain ⟨h0, hbk, hle⟩ := hF.node k _ hx
    rw [partsAt_is hx, back_cnt f hbk, start_of hb hx, cntR_add f hle (Nat.le_succ k), cntR_one]
end Go.Proofs.YtkokdafkjjcgoaaGreatDoor
namespace Go.Proofs.YtkokdafkjjcgoaaGreatDoor
open Go.ChangeShapes Go.WideShapes Go.ChangeAt Go.RowKit Go.Deep

/-- a slice of elements of k cells each, below B -/
def IsSl {α : Type} (k : Nat) (cells : α → List Value) (B : Nat) (w : World) (a : Option Addr) (L : List α) : Prop :=
  L ≠ [] → ∃ b off, a = some ⟨b, off, none⟩ ∧ b < B ∧ ∀ (i : Nat) t, L[i]? = some t → ∀ (j : Nat) u, (cells t)[j]? = some u → w.cell? ⟨b, off + i * k + j, none⟩ = some u
theorem IsSl.below {α : Type} {k : Nat} {cells : α → List Value} {B B' : Nat} {w w' : World} {a : Option Addr} {L : List α} (h : IsSl k cells B w a L) (hb : Below B' w w') (hB : B ≤ B') : IsSl k cells B w' a L := fun hn => by
  obtain ⟨b, off, rfl, hlt, hc⟩ := h hn
  exact ⟨b, off, rfl, hlt, fun i t ht j u hu => by rw [hb.cell (show b < B' by omega)]; exact hc i t ht j u hu⟩
theorem IsSl.mono {α : Type} {k : Nat} {cells : α → List Value} {B B' : Nat} {w : World} {a : Option Addr} {L : List α} (h : IsSl k cells B w a L) (hB : B ≤ B') : IsSl k cells B' w a L := fun hn => by
  obtain ⟨b, off, rfl, hlt, hc⟩ := h hn
  exact ⟨b, off, rfl, by omega, hc⟩
theorem isSl_nil {α : Type} {k : Nat} {cells : α → List Value} {B : Nat} {w : World} {a : Option Addr} : IsSl k cells B w a [] := fun h => absurd rfl h

section
variable {H : Type} {enc : TypeId × Value → H} {w : World} {base : Nat} {spare : Nat → Bool} {held : Bool}
/-- a slice, opened by its elements: k cells each -/
theorem open_list {t e : TypeId} {k : Nat} (hk0 : 0 < k) (ht : Tryz.prog.underlying t = some (.slice e)) (hk : Tryz.prog.cellsOf e = k) {α : Type} (cells : α → List Value) (data : α → DataW H) (Ok : α → Prop)
    (hel : ∀ {n : Nat} {cs : List Value} {D : DataW H} {pl : List MemPlace}, DataW.trod enc Tryz.prog w base spare held n e cs = some (D, pl) → ∃ a, cs = cells a ∧ D = data a ∧ Ok a)
    {fuel : Nat} {v : Value} {x : DataW H × List MemPlace} (h : DataW.trod enc Tryz.prog w base spare held fuel t [v] = some x) :
    ∃ (a : Option Addr) (cap : Nat) (L : List α), v = .slice a L.length cap ∧ L.length ≤ cap ∧ cap ≤ maxLen ∧ (a = none → L = [] ∧ cap = 0) ∧ ((x.1 = .nil ∧ L = []) ∨ ∃ rest, x.1 = .slice (L.map data) rest) ∧ IsSl k cells w.heap.size w a L ∧ ∀ t ∈ L, Ok t := by
  rcases open_slice ht h with ⟨hv, hx⟩ | ⟨a, len, cap, m, n, D, Pl, hv, _, hl, hcm, hm, hx, hi⟩
  · exact ⟨none, 0, [], by simpa using hv, Nat.zero_le _, Nat.zero_le _, fun _ => ⟨rfl, rfl⟩, .inl ⟨by rw [hx], rfl⟩, isSl_nil, fun t ht => by cases ht⟩
  · have hlm : len ≤ m := by rw [hm]; split <;> omega
    have hD : ∀ i, i < len → ∃ t : α, D i = data t ∧ Ok t ∧ (cells t).length = k ∧ ∀ j, j < k → w.cell? ((a.add (i * k)).add j) = (cells t)[j]? := fun i hlt => by
      obtain ⟨cs', hc, ht⟩ := hi i (by omega)
      obtain ⟨t, rfl, hd, hok⟩ := hel ht
      rw [hk] at hc
      exact ⟨t, hd, hok, (World.cells?_some hc).2⟩
    have key : ∀ q, q ≤ len → ∃ L : List α, L.length = q ∧ (List.range q).map D = L.map data ∧ ∀ (i : Nat) t, L[i]? = some t → Ok t ∧ (cells t).length = k ∧ ∀ j, j < k → w.cell? ((a.add (i * k)).add j) = (cells t)[j]? := by
      intro q
      induction q with
      | zero => intro _; exact ⟨[], rfl, rfl, fun i t hi => by simp at hi⟩
      | succ q ih =>
        intro hq
        obtain ⟨L, hL, hm', hc⟩ := ih (by omega)
        obtain ⟨t, hd, hok, hcell⟩ := hD q (by omega)
        refine ⟨L ++ [t], by simp [hL], by rw [List.range_succ, List.map_append, List.map_append, hm']; simp [hd], fun i u hu => ?_⟩
        rcases Nat.lt_or_ge i L.length with h' | h'
        · rw [List.getElem?_append_left h'] at hu; exact hc i u hu
        · rw [List.getElem?_append_right h'] at hu
          have hi0 : i - L.length = 0 := by
            rcases Nat.eq_zero_or_pos (i - L.length) with h0 | h0
            · exact h0
            · rw [List.getElem?_eq_none (by simp; omega)] at hu; cases hu
          rw [hi0] at hu
          obtain rfl := Option.some.inj hu
          obtain rfl : i = q := by omega
          exact ⟨hok, hcell⟩
    obtain ⟨L, hL, hm', hc⟩ := key len (Nat.le_refl _)
    subst hL
    refine ⟨some a, cap, L, by simpa using hv, hl, hcm, (fun h => by cases h), .inr ⟨_, by rw [hx, hm']⟩, fun hne => ?_, fun t ht => ?_⟩
    · obtain ⟨b, off, sp⟩ := a
      have h0 : 0 < L.length := List.length_pos_iff.2 hne
      have hsp : sp = none := by
        obtain ⟨_, hlk, hat⟩ := hc 0 _ (List.getElem?_eq_getElem h0)
        have h := hat 0 hk0
        rw [List.getElem?_eq_getElem (by omega)] at h
        simp only [Nat.zero_mul, Addr.add, if_true, World.cell?] at h
        cases sp with
        | none => rfl
        | some z =>
          exfalso
          simp at h
          split at h <;> simp at h
      subst hsp
      have hadd : ∀ i j, (((⟨b, off, none⟩ : Addr).add i).add j) = ⟨b, off + i + j, none⟩ := by
        intro i j
        unfold Addr.add
        split <;> split <;> simp_all
      have hall : ∀ (i : Nat) t, L[i]? = some t → ∀ (j : Nat) u, (cells t)[j]? = some u → w.cell? ⟨b, off + i * k + j, none⟩ = some u := fun i t ht j u hu => by
        obtain ⟨_, hlk, hat⟩ := hc i t ht
        have hj : j < k := by obtain ⟨h1, _⟩ := List.getElem?_eq_some_iff.1 hu; omega
        have := hat j hj
        rw [hadd] at this
        rw [this, hu]
      refine ⟨b, off, rfl, ?_, hall⟩
      obtain ⟨_, hlk, _⟩ := hc 0 _ (List.getElem?_eq_getElem h0)
      exact World.block_lt_of_cell? w _ (hall 0 _ (List.getElem?_eq_getElem h0) 0 _ (List.getElem?_eq_getElem (by omega)))
    · obtain ⟨i, hi, rfl⟩ := List.getElem_of_mem ht
      exact (hc i _ (List.getElem?_eq_getElem hi)).1
end
end Go.Proofs.YtkokdafkjjcgoaaGreatDoor
