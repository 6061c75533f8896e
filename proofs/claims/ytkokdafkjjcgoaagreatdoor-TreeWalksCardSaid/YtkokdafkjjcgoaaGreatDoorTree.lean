/- Trees: nodes behind their parts; where a part begins, what its parts are, whether they fit, how deep it is. Plain: nothing of the program. -/
import Derived.Test.YtkokdafkjjcgoaaGreatDoorLowM
namespace Go.Proofs.YtkokdafkjjcgoaaGreatDoor

structure Nd where
  kind : Int
  n : Int
  at_ : Int
  int : Int
  text : ByteArray
  type : ByteArray
/-- least and most parts -/
def arityN (k : Int) : Int × Int :=
  if k = 1 ∨ k = 2 ∨ k = 3 ∨ k = 17 ∨ k = 30 ∨ k = 31 ∨ k = 33 then (0, 0)
  else if k = 4 ∨ k = 5 ∨ k = 6 ∨ k = 13 ∨ k = 14 ∨ k = 15 ∨ k = 16 ∨ k = 20 ∨ k = 29 then (1, 1)
  else if k = 7 ∨ k = 8 ∨ k = 10 ∨ k = 12 ∨ k = 24 ∨ k = 25 ∨ k = 27 ∨ k = 28 then (2, 2)
  else if k = 9 then (3, 3)
  else if k = 26 then (4, 4)
  else if k = 11 then (1, 9)
  else if k = 21 then (0, 4096)
  else if k = 22 ∨ k = 32 then (0, 1)
  else if k = 23 then (2, 3)
  else (-1, -1)
/-- a type that may stand in a tree -/
def typedS (s : ByteArray) : Bool := decide (checkS [] s = 0 ∨ checkS [] s = 4)
def objectS (s : ByteArray) : Bool := (tyS s).any objectT
def marksB : List ByteArray := [⟨#[42]⟩, ⟨#[47]⟩, ⟨#[37]⟩, ⟨#[43]⟩, ⟨#[45]⟩, ⟨#[60, 60]⟩, ⟨#[62, 62]⟩, ⟨#[60]⟩, ⟨#[62]⟩, ⟨#[60, 61]⟩, ⟨#[62, 61]⟩, ⟨#[61, 61]⟩, ⟨#[33, 61]⟩, ⟨#[38]⟩, ⟨#[94]⟩, ⟨#[124]⟩, ⟨#[38, 38]⟩, ⟨#[124, 124]⟩]
def marksN (k : Int) : List ByteArray :=
  if k = 4 then [⟨#[45]⟩, ⟨#[126]⟩, ⟨#[33]⟩, ⟨#[38]⟩, ⟨#[42]⟩]
  else if k = 5 ∨ k = 6 then [⟨#[43, 43]⟩, ⟨#[45, 45]⟩]
  else if k = 7 then marksB
  else if k = 8 then [⟨#[61]⟩, ⟨#[42, 61]⟩, ⟨#[47, 61]⟩, ⟨#[37, 61]⟩, ⟨#[43, 61]⟩, ⟨#[45, 61]⟩, ⟨#[60, 60, 61]⟩, ⟨#[62, 62, 61]⟩, ⟨#[38, 61]⟩, ⟨#[94, 61]⟩, ⟨#[124, 61]⟩]
  else []
def noText (s : ByteArray) : Bool := decide (s.size = 0)
def numberN (x : Nd) : Bool := if x.type = ⟨#[117]⟩ then decide (0 ≤ x.int ∧ x.int < 4294967296) else decide (x.type = ⟨#[105]⟩) && decide (-128 ≤ x.int ∧ x.int < 2147483648)
/-- parts and place -/
def sizeOk (x : Nd) : Bool := decide (0 ≤ (arityN x.kind).1 ∧ (arityN x.kind).1 ≤ x.n ∧ x.n ≤ (arityN x.kind).2 ∧ 0 ≤ x.at_ ∧ x.at_ ≤ 65536)
def intOk (x : Nd) : Bool := decide (x.int = 0 ∨ (x.kind = 22 ∧ x.int = 1))
/-- text and type, by kind -/
def bodyOk (x : Nd) : Bool :=
  if x.kind = 2 then decide (x.text.size ≤ 4096) && noText x.type
  else if x.kind = 3 ∨ x.kind = 13 ∨ x.kind = 14 then isNameB x.text && noText x.type
  else if x.kind = 22 then isNameB x.text && (typedS x.type && objectS x.type)
  else if x.kind = 4 ∨ x.kind = 5 ∨ x.kind = 6 ∨ x.kind = 7 ∨ x.kind = 8 then Lib.containsS (marksN x.kind) x.text && noText x.type
  else if x.kind = 15 ∨ x.kind = 17 then noText x.text && typedS x.type
  else noText x.text && noText x.type
/-- a node that is right by itself -/
def wellN (x : Nd) : Bool := sizeOk x && (if x.kind = 1 then numberN x && noText x.text else intOk x && bodyOk x)

/-- of each node where its part begins; st: where the parts begin that wait, the last one first -/
def beginsF : List Nd → Nat → List Nat → Option (List Nat × List Nat)
  | [], _, st => some ([], st)
  | x :: l, i, st =>
    if x.n < 0 ∨ (st.length : Int) < x.n then none
    else
      let a := if 0 < x.n then st.getD (x.n.toNat - 1) 0 else i
      (beginsF l (i + 1) (a :: st.drop x.n.toNat)).map fun r => (a :: r.1, r.2)
def beginsN (t : List Nd) : Option (List Nat) := match beginsF t 0 [] with
  | some (f, [_]) => some f
  | _ => none
/-- the places of n parts, the last of which ends ahead of e -/
def partsE (fr : List Nat) : Nat → Nat → List Nat
  | 0, _ => []
  | n + 1, e => partsE fr n (fr.getD (e - 1) 0) ++ [e - 1]
/-- there are so many parts ahead of e -/
def Back (fr : List Nat) : Nat → Nat → Prop
  | 0, _ => True
  | n + 1, e => 0 < e ∧ fr.getD (e - 1) 0 < e ∧ Back fr n (fr.getD (e - 1) 0)
/-- the parts that wait end ahead of e -/
def Ends (fr : List Nat) : List Nat → Nat → Prop
  | [], _ => True
  | s :: st, e => s < e ∧ fr.getD (e - 1) 0 = s ∧ Ends fr st s
theorem Ends.back {fr : List Nat} : ∀ {st : List Nat} {e n : Nat}, Ends fr st e → n ≤ st.length → Back fr n e
  | _, _, 0, _, _ => trivial
  | [], _, n + 1, _, h => by simp at h
  | s :: st, e, n + 1, ⟨h1, h2, h3⟩, h => ⟨by omega, by omega, by rw [h2]; exact Ends.back h3 (by simpa using h)⟩
theorem getD_app {fr g : List Nat} {k : Nat} (h : k < fr.length) : (fr ++ g).getD k 0 = fr.getD k 0 := by
  rw [List.getD_eq_getElem?_getD, List.getD_eq_getElem?_getD, List.getElem?_append_left h]
theorem Ends.app {fr g : List Nat} : ∀ {st : List Nat} {e : Nat}, e ≤ fr.length → Ends fr st e → Ends (fr ++ g) st e
  | [], _, _, _ => trivial
  | s :: st, e, he, ⟨h1, h2, h3⟩ => ⟨h1, by rw [getD_app (by omega)]; exact h2, Ends.app (by omega) h3⟩
theorem Ends.drop {fr : List Nat} : ∀ {st : List Nat} {e : Nat} (n : Nat), Ends fr st e → 0 < n → n ≤ st.length → Ends fr (st.drop n) (st.getD (n - 1) 0)
  | [], _, n, _, h0, h => by simp at h; omega
  | s :: st, e, n + 1, ⟨h1, h2, h3⟩, _, h => by
    cases n with
    | zero => simpa using h3
    | succ n =>
      have := Ends.drop (n + 1) h3 (by omega) (by simpa using h)
      simpa using this
theorem Ends.lt {fr : List Nat} : ∀ {st : List Nat} {e : Nat} (n : Nat), Ends fr st e → n < st.length → st.getD n 0 < e
  | [], _, n, _, h => by simp at h
  | s :: st, e, 0, ⟨h1, _, _⟩, _ => by simpa using h1
  | s :: st, e, n + 1, ⟨h1, _, h3⟩, h => by
    have := Ends.lt n h3 (by simpa using h)
    simp only [List.getD_cons_succ]
    omega
/-- what is so of each node: its parts are there -/
theorem begins_back : ∀ (l : List Nd) (pre : List Nat) (st : List Nat) {f st' : List Nat}, beginsF l pre.length st = some (f, st') → Ends pre st pre.length →
    f.length = l.length ∧ Ends (pre ++ f) st' (pre.length + l.length) ∧ ∀ (j : Nat) x, l[j]? = some x → 0 ≤ x.n ∧ Back (pre ++ f) x.n.toNat (pre.length + j) ∧ (pre ++ f).getD (pre.length + j) 0 ≤ pre.length + j
  | [], pre, st, f, st', h, he => by
    rw [beginsF] at h
    obtain ⟨rfl, rfl⟩ := Prod.mk.inj (Option.some.inj h)
    exact ⟨rfl, by simpa using he, fun j x hx => by simp at hx⟩
  | x :: l, pre, st, f, st', h, he => by
    rw [beginsF] at h
    split at h
    · cases h
    · rename_i hn
      simp only [Option.map_eq_some_iff] at h
      obtain ⟨⟨g, st2⟩, hg, e⟩ := h
      obtain ⟨rfl, rfl⟩ := Prod.mk.inj e
      simp only at hg ⊢
      generalize ha : (if 0 < x.n then st.getD (x.n.toNat - 1) 0 else pre.length) = a at *
      have hle : x.n.toNat ≤ st.length := by omega
      have ha1 : a ≤ pre.length := by
        rw [← ha]
        split
        · exact Nat.le_of_lt (he.lt _ (by omega))
        · exact Nat.le_refl _
      have he2 : Ends (pre ++ [a]) (a :: st.drop x.n.toNat) (pre ++ [a]).length := by
        refine ⟨by simp; omega, by simp, ?_⟩
        by_cases h0 : 0 < x.n
        · rw [if_pos h0] at ha
          rw [← ha]
          exact (he.drop x.n.toNat (by omega) hle).app (by rw [ha]; exact ha1)
        · rw [if_neg h0] at ha
          have : x.n.toNat = 0 := by omega
          rw [this, ← ha]
          simpa using he.app (Nat.le_refl _)
      have hl1 : (pre ++ [a]).length = pre.length + 1 := by simp
      obtain ⟨h1, h2, h3⟩ := begins_back l (pre ++ [a]) _ (by rw [hl1]; exact hg) he2
      have hap : pre ++ [a] ++ g = pre ++ a :: g := by simp
      rw [hap, hl1] at h2 h3
      refine ⟨by simp [h1], by rw [show pre.length + (x :: l).length = pre.length + 1 + l.length by simp; omega]; exact h2, fun j y hy => ?_⟩
      cases j with
      | zero =>
        obtain rfl := Option.some.inj hy
        refine ⟨by omega, ?_, ?_⟩
        · have := (he.app (g := a :: g) (Nat.le_refl _)).back (n := x.n.toNat) hle
          simpa using this
        · rw [List.getD_eq_getElem?_getD, Nat.add_zero, List.getElem?_append_right (Nat.le_refl _), Nat.sub_self]
          exact ha1
      | succ j =>
        have := h3 j y (by simpa using hy)
        rw [show pre.length + (j + 1) = pre.length + 1 + j by omega]
        exact this
/-- a list of nodes that is well formed, and where its parts begin -/
structure Formed (t : List Nd) (fr : List Nat) : Prop where
  len : fr.length = t.length
  pos : 0 < t.length
  node : ∀ (j : Nat) x, t[j]? = some x → 0 ≤ x.n ∧ Back fr x.n.toNat j ∧ fr.getD j 0 ≤ j
theorem formed_of {t : List Nd} {fr : List Nat} (h : beginsN t = some fr) : Formed t fr := by
  unfold beginsN at h
  split at h
  · rename_i f s hb
    obtain rfl := Option.some.inj h
    obtain ⟨h1, h2, h3⟩ := begins_back t [] [] hb trivial
    refine ⟨h1, ?_, fun j x hx => by simpa using h3 j x hx⟩
    have := h2.1
    simp at this; omega
  · cases h

/-- may a kind be the i-th part of another one? -/
def exprK (k : Int) : Bool := decide (1 ≤ k ∧ k ≤ 17)
def stmtK (k : Int) : Bool := decide (20 ≤ k ∧ k ≤ 32 ∧ k ≠ 22)
def mayN (k : Int) (i : Nat) (q : Int) : Bool :=
  if exprK k = true ∨ k = 20 ∨ k = 32 ∨ k = 22 then exprK q
  else if k = 26 then (if i = 0 then decide (q = 20 ∨ q = 22 ∨ q = 33) else if i = 3 then stmtK q else exprK q || decide (q = 33))
  else if k = 21 then stmtK q || decide (q = 22)
  else if k = 25 then (if i = 0 then stmtK q else exprK q)
  else if k = 23 ∨ k = 24 ∨ k = 27 ∨ k = 28 then (if i = 0 then exprK q else stmtK q)
  else stmtK q
def kindAt (t : List Nd) (k : Nat) : Int := (t[k]?.map Nd.kind).getD 0
def partsAt (t : List Nd) (fr : List Nat) (k : Nat) : List Nat := partsE fr ((t[k]?.map fun x => x.n.toNat).getD 0) k
/-- an open if -/
def openF (t : List Nd) (fr : List Nat) : Nat → Nat → Bool
  | 0, _ => false
  | m + 1, k =>
    let p := partsAt t fr k
    if kindAt t k = 23 then decide (p.length = 2) || openF t fr m (p.getD 2 0)
    else if kindAt t k = 24 ∨ kindAt t k = 26 ∨ kindAt t k = 27 ∨ kindAt t k = 28 ∨ kindAt t k = 29 then openF t fr m (p.getD (p.length - 1) 0)
    else false
def openN (t : List Nd) (fr : List Nat) (k : Nat) : Bool := openF t fr (k + 1) k
def mayAll (t : List Nd) (k : Int) : Nat → List Nat → Bool
  | _, [] => true
  | i, p :: l => mayN k i (kindAt t p) && mayAll t k (i + 1) l
def fitsN (t : List Nd) (fr : List Nat) (k : Nat) : Bool :=
  mayAll t (kindAt t k) 0 (partsAt t fr k) && (decide (kindAt t k ≠ 23) || (decide ((partsAt t fr k).length < 3) || !openN t fr ((partsAt t fr k).getD 1 0)))
/-- how deep; st: how deep the parts are that wait, the last one first -/
def deepF : List Nd → List Nat → List Nat
  | [], st => st
  | x :: l, st => deepF l (((st.take x.n.toNat).foldl max 0 + 1) :: st.drop x.n.toNat)
def deepN (t : List Nd) : Nat := (deepF t []).getD 0 0
/-- what is wrong with a tree -/
def checkN9 (t : List Nd) : Int :=
  if 4096 < t.length then 3
  else if t.all wellN = false then 90
  else match beginsN t with
    | none => 90
    | some fr => if (List.range t.length).all (fitsN t fr) = false then 90 else if 48 < deepN t then 3 else 0
end Go.Proofs.YtkokdafkjjcgoaaGreatDoor

