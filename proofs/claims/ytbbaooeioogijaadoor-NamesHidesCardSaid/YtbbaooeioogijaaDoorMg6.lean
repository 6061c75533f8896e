/- What the rows' lists give: the tables that the program leans on; a world in which they stand so. · A world for the witness: the table of words as it is laid. · Trees: nodes behind their parts; where a part begins, what its parts are, whether they fit, how deep it is. Plain: nothing of the program. · An argument that is a slice, opened by its elements. · Nodes in the world: a node by value, a list of nodes. · Rows of one's own, as lists of elements of k cells each. · Elem, Sign, Decay, Promote, Common: what they tell. · Decay, Promote: the program. -/
import Derived.Test.YtbbaooeioogijaaDoorMg5
import Derived.Test.YtbbaooeioogijaaDoorRows
import Derived.Lib.LaidTab
import Derived.OpenShut
import Derived.LaidLaws
import Derived.Test.YtbbaooeioogijaaDoorMg2
import Derived.Test.YtbbaooeioogijaaDoorChecked
import Derived.Test.YtbbaooeioogijaaDoorMg1
import Derived.Deep.Slices
import Derived.ProofKit
import Derived.SizedLaws
namespace Go.Proofs.YtbbaooeioogijaaDoor
open Go.RowKit

theorem laidVars_mem {w : World} : ∀ {l : List (String × DataW Unit)} {ps : List MemPlace}, DataW.LaidVars Tryd.prog w l ps → ∀ (n : String) (d : DataW Unit), (n, d) ∈ l →
    ∃ g t cs fuel p, Tryd.prog.globalNamed n = some g ∧ (Tryd.prog.globals[g]?).map (·.type) = some t ∧ w.var? Tryd.prog n = some cs ∧ DataW.trod (fun _ => ()) Tryd.prog w 0 (fun _ => true) false fuel t cs.toList = some (d, p)
  | [], _, _, _, _, hm => by cases hm
  | (n', d') :: r, ps, h, n, d, hm => by
    obtain ⟨g, t, cs, fuel, p, q, h1, h2, h3, h4, h5, _⟩ := h
    rcases List.mem_cons.1 hm with e | hm'
    · simp only [Prod.mk.injEq] at e
      obtain ⟨rfl, rfl⟩ := e
      exact ⟨g, t, cs, fuel, p, h1, h2, h3, h4⟩
    · exact laidVars_mem h5 n d hm'

theorem strs_of_tab {w : World} {base fuel n : Nat} {sp : Nat → Bool} {held : Bool} {t e : TypeId} {cs : List Value} {zs : List (List UInt8)} {p : List MemPlace}
    (ht : Tryd.prog.underlying t = some (.array n e)) (he : Tryd.prog.underlying e = some .string) (hce : Tryd.prog.cellsOf e = 1) (hct : Tryd.prog.cellsOf t = n)
    (h : DataW.trod (fun _ => ()) Tryd.prog w base sp held fuel t cs = some (.agg (zs.map fun z => .lit (.string z)), p)) : ∀ j, j < zs.length → cs[j]? = some (.string ⟨(zs.getD j []).toArray⟩) := by
  obtain ⟨xs, m, _, hx, hl, hxl, hf⟩ := DataW.trod_array ht h
  simp only [Prod.mk.injEq, DataW.agg.injEq] at hx
  have hlen : zs.length = n := by have := congrArg List.length hx.1; simp at this; omega
  intro j hj
  have hjn : j < n := by omega
  have h1 := hf j hjn
  rw [hce, Nat.mul_one] at h1
  have hjc : j < cs.length := by omega
  rw [List.drop_eq_getElem_cons hjc, List.take_succ_cons, List.take_zero, List.getElem?_eq_getElem (by omega)] at h1
  obtain ⟨s, e1, e2, _⟩ := DataW.trod_string he h1
  simp only [List.cons.injEq, and_true] at e1
  rw [List.getElem?_eq_getElem hjc, e1]
  have h3 : (xs.map (·.1))[j]? = some (.lit (.string s.data.toList)) := by
    rw [List.getElem?_map, List.getElem?_eq_getElem (by omega), e2]; rfl
  rw [← hx.1, List.getElem?_map, List.getElem?_eq_getElem hj] at h3
  simp only [Option.map_some, Option.some.injEq, DataW.lit.injEq, Lit.string.injEq] at h3
  rw [getD_lt _ _ hj, h3]

theorem keysG : Tryd.prog.globalNamed "catapult/lex.keys" = some 0 := by kernel_rfl
theorem keysT : (Tryd.prog.globals[0]?).map (·.type) = some 154 := by kernel_rfl
theorem cells20s : Tryd.prog.cellsOf 154 = 20 := by kernel_rfl
theorem cellsS : Tryd.prog.cellsOf 9 = 1 := by kernel_rfl
theorem keys_laid {w : World} {l : List (String × DataW Unit)} (h : laidMet Tryd.prog l w) (hm : ("catapult/lex.keys", Rows.laid_catapult_lex_keys) ∈ l) : KeysAt w := by
  obtain ⟨ps, hv, _⟩ := h
  obtain ⟨g, t, cs, fuel, p, h1, h2, h3, h4⟩ := laidVars_mem hv _ _ hm
  obtain rfl := Option.some.inj (keysG.symm.trans h1)
  obtain rfl := Option.some.inj (keysT.symm.trans h2)
  have h5 := strs_of_tab (zs := keyT.map (·.data.toList)) Tryd.underlying154 Tryd.underlying9 cellsS cells20s h4
  intro j hj
  rw [Nat.zero_add, World.var?_cell keysG h3 j]
  have h6 := h5 j (by rw [List.length_map]; exact hj)
  rw [getD_lt _ _ (by rw [List.length_map]; exact hj), List.getElem_map] at h6
  rw [getD_lt _ _ hj]
  simpa using h6
/-- the library's own bound holds some number -/
theorem maxl_shaped {w : World} (h : w.ShapedOpen Tryd.prog) : MaxLenAt w := Tryd.laysM219.s1_3 w h
theorem te_laid {w : World} {l : List (String × DataW Unit)} (h : laidMet Tryd.prog l w) (hs : w.ShapedOpen Tryd.prog) (h2 : ("catapult/lex.keys", Rows.laid_catapult_lex_keys) ∈ l) : TE w := ⟨keys_laid h h2, maxl_shaped hs⟩
/-- the cells of a table, off what it reads as -/
def tabCells : DataW Unit → Array Value
  | .agg l => (l.map fun d => match d with
    | .lit (.int k n) => Value.int k n
    | .lit (.string s) => Value.string ⟨s.toArray⟩
    | _ => Value.bool false).toArray
  | _ => #[]

end Go.Proofs.YtbbaooeioogijaaDoor
namespace Go.Proofs.YtbbaooeioogijaaDoor
open Go.RowKit

/-- a world for the witness: the settled one, the listed variable as it is laid -/
noncomputable def envWorld (os : Os) : World :=
  let w0 := World.holding Tryd.prog os ⟨#[], #[], []⟩
  let put (h : Array Obj) (g : Nat) (cs : Array Value) : Array Obj := h.modify g fun
    | .cells _ t frozen => .cells cs t frozen
    | o => o
  { w0 with heap := put w0.heap 0 (tabCells Rows.laid_catapult_lex_keys) }
end Go.Proofs.YtbbaooeioogijaaDoor
namespace Go.Proofs.YtbbaooeioogijaaDoor

structure Nd where
  kind : Int
  n : Int
  at_ : Int
  int : Int
  text : ByteArray
  type : ByteArray
/-- least and most parts -/
def arityN (k : Int) : Int × Int :=
  if k = 1 ∨ k = 2 ∨ k = 3 ∨ k = 17 ∨ k = 30 ∨ k = 31 ∨ k = 33 then (0, 0)
  else if k = 4 ∨ k = 5 ∨ k = 6 ∨ k = 13 ∨ k = 14 ∨ k = 15 ∨ k = 16 ∨ k = 20 ∨ k = 29 then (1, 1)
  else if k = 7 ∨ k = 8 ∨ k = 10 ∨ k = 12 ∨ k = 24 ∨ k = 25 ∨ k = 27 ∨ k = 28 then (2, 2)
  else if k = 9 then (3, 3)
  else if k = 26 then (4, 4)
  else if k = 11 then (1, 9)
  else if k = 21 then (0, 4096)
  else if k = 22 ∨ k = 32 then (0, 1)
  else if k = 23 then (2, 3)
  else (-1, -1)
/-- a type that may stand in a tree -/
def typedS (s : ByteArray) : Bool := decide (checkS [] s = 0 ∨ checkS [] s = 4)
def objectS (s : ByteArray) : Bool := (tyS s).any objectT
def marksB : List ByteArray := [⟨#[42]⟩, ⟨#[47]⟩, ⟨#[37]⟩, ⟨#[43]⟩, ⟨#[45]⟩, ⟨#[60, 60]⟩, ⟨#[62, 62]⟩, ⟨#[60]⟩, ⟨#[62]⟩, ⟨#[60, 61]⟩, ⟨#[62, 61]⟩, ⟨#[61, 61]⟩, ⟨#[33, 61]⟩, ⟨#[38]⟩, ⟨#[94]⟩, ⟨#[124]⟩, ⟨#[38, 38]⟩, ⟨#[124, 124]⟩]
def marksN (k : Int) : List ByteArray :=
  if k = 4 then [⟨#[45]⟩, ⟨#[126]⟩, ⟨#[33]⟩, ⟨#[38]⟩, ⟨#[42]⟩]
  else if k = 5 ∨ k = 6 then [⟨#[43, 43]⟩, ⟨#[45, 45]⟩]
  else if k = 7 then marksB
  else if k = 8 then [⟨#[61]⟩, ⟨#[42, 61]⟩, ⟨#[47, 61]⟩, ⟨#[37, 61]⟩, ⟨#[43, 61]⟩, ⟨#[45, 61]⟩, ⟨#[60, 60, 61]⟩, ⟨#[62, 62, 61]⟩, ⟨#[38, 61]⟩, ⟨#[94, 61]⟩, ⟨#[124, 61]⟩]
  else []
def noText (s : ByteArray) : Bool := decide (s.size = 0)
def numberN (x : Nd) : Bool := if x.type = ⟨#[117]⟩ then decide (0 ≤ x.int ∧ x.int < 4294967296) else decide (x.type = ⟨#[105]⟩) && decide (-128 ≤ x.int ∧ x.int < 2147483648)
/-- parts and place -/
def sizeOk (x : Nd) : Bool := decide (0 ≤ (arityN x.kind).1 ∧ (arityN x.kind).1 ≤ x.n ∧ x.n ≤ (arityN x.kind).2 ∧ 0 ≤ x.at_ ∧ x.at_ ≤ 65536)
def intOk (x : Nd) : Bool := decide (x.int = 0 ∨ (x.kind = 22 ∧ x.int = 1))
/-- text and type, by kind -/
def bodyOk (x : Nd) : Bool :=
  if x.kind = 2 then decide (x.text.size ≤ 4096) && noText x.type
  else if x.kind = 3 ∨ x.kind = 13 ∨ x.kind = 14 then isNameB x.text && noText x.type
  else if x.kind = 22 then isNameB x.text && (typedS x.type && objectS x.type)
  else if x.kind = 4 ∨ x.kind = 5 ∨ x.kind = 6 ∨ x.kind = 7 ∨ x.kind = 8 then Lib.containsS (marksN x.kind) x.text && noText x.type
  else if x.kind = 15 ∨ x.kind = 17 then noText x.text && typedS x.type
  else noText x.text && noText x.type
/-- a node that is right by itself -/
def wellN (x : Nd) : Bool := sizeOk x && (if x.kind = 1 then numberN x && noText x.text else intOk x && bodyOk x)

/-- of each node where its part begins; st: where the parts begin that wait, the last one first -/
def beginsF : List Nd → Nat → List Nat → Option (List Nat × List Nat)
  | [], _, st => some ([], st)
  | x :: l, i, st =>
    if x.n < 0 ∨ (st.length : Int) < x.n then none
    else
      let a := if 0 < x.n then st.getD (x.n.toNat - 1) 0 else i
      (beginsF l (i + 1) (a :: st.drop x.n.toNat)).map fun r => (a :: r.1, r.2)
def beginsN (t : List Nd) : Option (List Nat) := match beginsF t 0 [] with
  | some (f, [_]) => some f
  | _ => none
/-- the places of n parts, the last of which ends ahead of e -/
def partsE (fr : List Nat) : Nat → Nat → List Nat
  | 0, _ => []
  | n + 1, e => partsE fr n (fr.getD (e - 1) 0) ++ [e - 1]
/-- there are so many parts ahead of e -/
def Back (fr : List Nat) : Nat → Nat → Prop
  | 0, _ => True
  | n + 1, e => 0 < e ∧ fr.getD (e - 1) 0 < e ∧ Back fr n (fr.getD (e - 1) 0)
/-- the parts that wait end ahead of e -/
def Ends (fr : List Nat) : List Nat → Nat → Prop
  | [], _ => True
  | s :: st, e => s < e ∧ fr.getD (e - 1) 0 = s ∧ Ends fr st s
theorem Ends.back {fr : List Nat} : ∀ {st : List Nat} {e n : Nat}, Ends fr st e → n ≤ st.length → Back fr n e
  | _, _, 0, _, _ => trivial
  | [], _, n + 1, _, h => by simp at h
  | s :: st, e, n + 1, ⟨h1, h2, h3⟩, h => ⟨by omega, by omega, by rw [h2]; exact Ends.back h3 (by simpa using h)⟩
theorem getD_app {fr g : List Nat} {k : Nat} (h : k < fr.length) : (fr ++ g).getD k 0 = fr.getD k 0 := by
  rw [List.getD_eq_getElem?_getD, List.getD_eq_getElem?_getD, List.getElem?_append_left h]
theorem Ends.app {fr g : List Nat} : ∀ {st : List Nat} {e : Nat}, e ≤ fr.length → Ends fr st e → Ends (fr ++ g) st e
  | [], _, _, _ => trivial
  | s :: st, e, he, ⟨h1, h2, h3⟩ => ⟨h1, by rw [getD_app (by omega)]; exact h2, Ends.app (by omega) h3⟩
theorem Ends.drop {fr : List Nat} : ∀ {st : List Nat} {e : Nat} (n : Nat), Ends fr st e → 0 < n → n ≤ st.length → Ends fr (st.drop n) (st.getD (n - 1) 0)
  | [], _, n, _, h0, h => by simp at h; omega
  | s :: st, e, n + 1, ⟨h1, h2, h3⟩, _, h => by
    cases n with
    | zero => simpa using h3
    | succ n =>
      have := Ends.drop (n + 1) h3 (by omega) (by simpa using h)
      simpa using this
theorem Ends.lt {fr : List Nat} : ∀ {st : List Nat} {e : Nat} (n : Nat), Ends fr st e → n < st.length → st.getD n 0 < e
  | [], _, n, _, h => by simp at h
  | s :: st, e, 0, ⟨h1, _, _⟩, _ => by simpa using h1
  | s :: st, e, n + 1, ⟨h1, _, h3⟩, h => by
    have := Ends.lt n h3 (by simpa using h)
    simp only [List.getD_cons_succ]
    omega
/-- what is so of each node: its parts are there -/
theorem begins_back : ∀ (l : List Nd) (pre : List Nat) (st : List Nat) {f st' : List Nat}, beginsF l pre.length st = some (f, st') → Ends pre st pre.length →
    f.length = l.length ∧ Ends (pre ++ f) st' (pre.length + l.length) ∧ ∀ (j : Nat) x, l[j]? = some x → 0 ≤ x.n ∧ Back (pre ++ f) x.n.toNat (pre.length + j) ∧ (pre ++ f).getD (pre.length + j) 0 ≤ pre.length + j
  | [], pre, st, f, st', h, he => by
    rw [beginsF] at h
    obtain ⟨rfl, rfl⟩ := Prod.mk.inj (Option.some.inj h)
    exact ⟨rfl, by simpa using he, fun j x hx => by simp at hx⟩
  | x :: l, pre, st, f, st', h, he => by
    rw [beginsF] at h
    split at h
    · cases h
    · rename_i hn
      simp only [Option.map_eq_some_iff] at h
      obtain ⟨⟨g, st2⟩, hg, e⟩ := h
      obtain ⟨rfl, rfl⟩ := Prod.mk.inj e
      simp only at hg ⊢
      generalize ha : (if 0 < x.n then st.getD (x.n.toNat - 1) 0 else pre.length) = a at *
      have hle : x.n.toNat ≤ st.length := by omega
      have ha1 : a ≤ pre.length := by
        rw [← ha]
        split
        · exact Nat.le_of_lt (he.lt _ (by omega))
        · exact Nat.le_refl _
      have he2 : Ends (pre ++ [a]) (a :: st.drop x.n.toNat) (pre ++ [a]).length := by
        refine ⟨by simp; omega, by simp, ?_⟩
        by_cases h0 : 0 < x.n
        · rw [if_pos h0] at ha
          rw [← ha]
          exact (he.drop x.n.toNat (by omega) hle).app (by rw [ha]; exact ha1)
        · rw [if_neg h0] at ha
          have : x.n.toNat = 0 := by omega
          rw [this, ← ha]
          simpa using he.app (Nat.le_refl _)
      have hl1 : (pre ++ [a]).length = pre.length + 1 := by simp
      obtain ⟨h1, h2, h3⟩ := begins_back l (pre ++ [a]) _ (by rw [hl1]; exact hg) he2
      have hap : pre ++ [a] ++ g = pre ++ a :: g := by simp
      rw [hap, hl1] at h2 h3
      refine ⟨by simp [h1], by rw [show pre.length + (x :: l).length = pre.length + 1 + l.length by simp; omega]; exact h2, fun j y hy => ?_⟩
      cases j with
      | zero =>
        obtain rfl := Option.some.inj hy
        refine ⟨by omega, ?_, ?_⟩
        · have := (he.app (g := a :: g) (Nat.le_refl _)).back (n := x.n.toNat) hle
          simpa using this
        · rw [List.getD_eq_getElem?_getD, Nat.add_zero, List.getElem?_append_right (Nat.le_refl _), Nat.sub_self]
          exact ha1
      | succ j =>
        have := h3 j y (by simpa using hy)
        rw [show pre.length + (j + 1) = pre.length + 1 + j by omega]
        exact this
/-- a list of nodes that is well formed, and where its parts begin -/
structure Formed (t : List Nd) (fr : List Nat) : Prop where
  len : fr.length = t.length
  pos : 0 < t.length
  node : ∀ (j : Nat) x, t[j]? = some x → 0 ≤ x.n ∧ Back fr x.n.toNat j ∧ fr.getD j 0 ≤ j
theorem formed_of {t : List Nd} {fr : List Nat} (h : beginsN t = some fr) : Formed t fr := by
  unfold beginsN at h
  split at h
  · rename_i f s hb
    obtain rfl := Option.some.inj h
    obtain ⟨h1, h2, h3⟩ := begins_back t [] [] hb trivial
    refine ⟨h1, ?_, fun j x hx => by simpa using h3 j x hx⟩
    have := h2.1
    simp at this; omega
  · cases h

/-- may a kind be the i-th part of another one? -/
def exprK (k : Int) : Bool := decide (1 ≤ k ∧ k ≤ 17)
def stmtK (k : Int) : Bool := decide (20 ≤ k ∧ k ≤ 32 ∧ k ≠ 22)
def mayN (k : Int) (i : Nat) (q : Int) : Bool :=
  if exprK k = true ∨ k = 20 ∨ k = 32 ∨ k = 22 then exprK q
  else if k = 26 then (if i = 0 then decide (q = 20 ∨ q = 22 ∨ q = 33) else if i = 3 then stmtK q else exprK q || decide (q = 33))
  else if k = 21 then stmtK q || decide (q = 22)
  else if k = 25 then (if i = 0 then stmtK q else exprK q)
  else if k = 23 ∨ k = 24 ∨ k = 27 ∨ k = 28 then (if i = 0 then exprK q else stmtK q)
  else stmtK q
def kindAt (t : List Nd) (k : Nat) : Int := (t[k]?.map Nd.kind).getD 0
def partsAt (t : List Nd) (fr : List Nat) (k : Nat) : List Nat := partsE fr ((t[k]?.map fun x => x.n.toNat).getD 0) k
/-- an open if -/
def openF (t : List Nd) (fr : List Nat) : Nat → Nat → Bool
  | 0, _ => false
  | m + 1, k =>
    let p := partsAt t fr k
    if kindAt t k = 23 then decide (p.length = 2) || openF t fr m (p.getD 2 0)
    else if kindAt t k = 24 ∨ kindAt t k = 26 ∨ kindAt t k = 27 ∨ kindAt t k = 28 ∨ kindAt t k = 29 then openF t fr m (p.getD (p.length - 1) 0)
    else false
def openN (t : List Nd) (fr : List Nat) (k : Nat) : Bool := openF t fr (k + 1) k
def mayAll (t : List Nd) (k : Int) : Nat → List Nat → Bool
  | _, [] => true
  | i, p :: l => mayN k i (kindAt t p) && mayAll t k (i + 1) l
def fitsN (t : List Nd) (fr : List Nat) (k : Nat) : Bool :=
  mayAll t (kindAt t k) 0 (partsAt t fr k) && (decide (kindAt t k ≠ 23) || (decide ((partsAt t fr k).length < 3) || !openN t fr ((partsAt t fr k).getD 1 0)))
/-- how deep; st: how deep the parts are that wait, the last one first -/
def deepF : List Nd → List Nat → List Nat
  | [], st => st
  | x :: l, st => deepF l (((st.take x.n.toNat).foldl max 0 + 1) :: st.drop x.n.toNat)
def deepN (t : List Nd) : Nat := (deepF t []).getD 0 0
/-- what is wrong with a tree -/
def checkN9 (t : List Nd) : Int :=
  if 4096 < t.length then 3
  else if t.all wellN = false then 90
  else match beginsN t with
    | none => 90
    | some fr => if (List.range t.length).all (fitsN t fr) = false then 90 else if 48 < deepN t then 3 else 0
end Go.Proofs.YtbbaooeioogijaaDoor
namespace Go.Proofs.YtbbaooeioogijaaDoor
open Go.ChangeShapes Go.WideShapes Go.ChangeAt Go.RowKit Go.Deep

/-- a slice of elements of k cells each, below B -/
def IsSl {α : Type} (k : Nat) (cells : α → List Value) (B : Nat) (w : World) (a : Option Addr) (L : List α) : Prop :=
  L ≠ [] → ∃ b off, a = some ⟨b, off, none⟩ ∧ b < B ∧ ∀ (i : Nat) t, L[i]? = some t → ∀ (j : Nat) u, (cells t)[j]? = some u → w.cell? ⟨b, off + i * k + j, none⟩ = some u
theorem IsSl.below {α : Type} {k : Nat} {cells : α → List Value} {B B' : Nat} {w w' : World} {a : Option Addr} {L : List α} (h : IsSl k cells B w a L) (hb : Below B' w w') (hB : B ≤ B') : IsSl k cells B w' a L := fun hn => by
  obtain ⟨b, off, rfl, hlt, hc⟩ := h hn
  exact ⟨b, off, rfl, hlt, fun i t ht j u hu => by rw [hb.cell (show b < B' by omega)]; exact hc i t ht j u hu⟩
theorem IsSl.mono {α : Type} {k : Nat} {cells : α → List Value} {B B' : Nat} {w : World} {a : Option Addr} {L : List α} (h : IsSl k cells B w a L) (hB : B ≤ B') : IsSl k cells B' w a L := fun hn => by
  obtain ⟨b, off, rfl, hlt, hc⟩ := h hn
  exact ⟨b, off, rfl, by omega, hc⟩
theorem isSl_nil {α : Type} {k : Nat} {cells : α → List Value} {B : Nat} {w : World} {a : Option Addr} : IsSl k cells B w a [] := fun h => absurd rfl h

section
variable {H : Type} {enc : TypeId × Value → H} {w : World} {base : Nat} {spare : Nat → Bool} {held : Bool}
/-- a slice, opened by its elements: k cells each -/
theorem open_list {t e : TypeId} {k : Nat} (hk0 : 0 < k) (ht : Tryd.prog.underlying t = some (.slice e)) (hk : Tryd.prog.cellsOf e = k) {α : Type} (cells : α → List Value) (data : α → DataW H) (Ok : α → Prop)
    (hel : ∀ {n : Nat} {cs : List Value} {D : DataW H} {pl : List MemPlace}, DataW.trod enc Tryd.prog w base spare held n e cs = some (D, pl) → ∃ a, cs = cells a ∧ D = data a ∧ Ok a)
    {fuel : Nat} {v : Value} {x : DataW H × List MemPlace} (h : DataW.trod enc Tryd.prog w base spare held fuel t [v] = some x) :
    ∃ (a : Option Addr) (cap : Nat) (L : List α), v = .slice a L.length cap ∧ L.length ≤ cap ∧ cap ≤ maxLen ∧ (a = none → L = [] ∧ cap = 0) ∧ ((x.1 = .nil ∧ L = []) ∨ ∃ rest, x.1 = .slice (L.map data) rest) ∧ IsSl k cells w.heap.size w a L ∧ ∀ t ∈ L, Ok t := by
  rcases open_slice ht h with ⟨hv, hx⟩ | ⟨a, len, cap, m, n, D, Pl, hv, _, hl, hcm, hm, hx, hi⟩
  · exact ⟨none, 0, [], by simpa using hv, Nat.zero_le _, Nat.zero_le _, fun _ => ⟨rfl, rfl⟩, .inl ⟨by rw [hx], rfl⟩, isSl_nil, fun t ht => by cases ht⟩
  · have hlm : len ≤ m := by rw [hm]; split <;> omega
    have hD : ∀ i, i < len → ∃ t : α, D i = data t ∧ Ok t ∧ (cells t).length = k ∧ ∀ j, j < k → w.cell? ((a.add (i * k)).add j) = (cells t)[j]? := fun i hlt => by
      obtain ⟨cs', hc, ht⟩ := hi i (by omega)
      obtain ⟨t, rfl, hd, hok⟩ := hel ht
      rw [hk] at hc
      exact ⟨t, hd, hok, (World.cells?_some hc).2⟩
    have key : ∀ q, q ≤ len → ∃ L : List α, L.length = q ∧ (List.range q).map D = L.map data ∧ ∀ (i : Nat) t, L[i]? = some t → Ok t ∧ (cells t).length = k ∧ ∀ j, j < k → w.cell? ((a.add (i * k)).add j) = (cells t)[j]? := by
      intro q
      induction q with
      | zero => intro _; exact ⟨[], rfl, rfl, fun i t hi => by simp at hi⟩
      | succ q ih =>
        intro hq
        obtain ⟨L, hL, hm', hc⟩ := ih (by omega)
        obtain ⟨t, hd, hok, hcell⟩ := hD q (by omega)
        refine ⟨L ++ [t], by simp [hL], by rw [List.range_succ, List.map_append, List.map_append, hm']; simp [hd], fun i u hu => ?_⟩
        rcases Nat.lt_or_ge i L.length with h' | h'
        · rw [List.getElem?_append_left h'] at hu; exact hc i u hu
        · rw [List.getElem?_append_right h'] at hu
          have hi0 : i - L.length = 0 := by
            rcases Nat.eq_zero_or_pos (i - L.length) with h0 | h0
            · exact h0
            · rw [List.getElem?_eq_none (by simp; omega)] at hu; cases hu
          rw [hi0] at hu
          obtain rfl := Option.some.inj hu
          obtain rfl : i = q := by omega
          exact ⟨hok, hcell⟩
    obtain ⟨L, hL, hm', hc⟩ := key len (Nat.le_refl _)
    subst hL
    refine ⟨some a, cap, L, by simpa using hv, hl, hcm, (fun h => by cases h), .inr ⟨_, by rw [hx, hm']⟩, fun hne => ?_, fun t ht => ?_⟩
    · obtain ⟨b, off, sp⟩ := a
      have h0 : 0 < L.length := List.length_pos_iff.2 hne
      have hsp : sp = none := by
        obtain ⟨_, hlk, hat⟩ := hc 0 _ (List.getElem?_eq_getElem h0)
        have h := hat 0 hk0
        rw [List.getElem?_eq_getElem (by omega)] at h
        simp only [Nat.zero_mul, Addr.add, if_true, World.cell?] at h
        cases sp with
        | none => rfl
        | some z =>
          exfalso
          simp at h
          split at h <;> simp at h
      subst hsp
      have hadd : ∀ i j, (((⟨b, off, none⟩ : Addr).add i).add j) = ⟨b, off + i + j, none⟩ := by
        intro i j
        unfold Addr.add
        split <;> split <;> simp_all
      have hall : ∀ (i : Nat) t, L[i]? = some t → ∀ (j : Nat) u, (cells t)[j]? = some u → w.cell? ⟨b, off + i * k + j, none⟩ = some u := fun i t ht j u hu => by
        obtain ⟨_, hlk, hat⟩ := hc i t ht
        have hj : j < k := by obtain ⟨h1, _⟩ := List.getElem?_eq_some_iff.1 hu; omega
        have := hat j hj
        rw [hadd] at this
        rw [this, hu]
      refine ⟨b, off, rfl, ?_, hall⟩
      obtain ⟨_, hlk, _⟩ := hc 0 _ (List.getElem?_eq_getElem h0)
      exact World.block_lt_of_cell? w _ (hall 0 _ (List.getElem?_eq_getElem h0) 0 _ (List.getElem?_eq_getElem (by omega)))
    · obtain ⟨i, hi, rfl⟩ := List.getElem_of_mem ht
      exact (hc i _ (List.getElem?_eq_getElem hi)).1
end
end Go.Proofs.YtbbaooeioogijaaDoor
namespace Go.Proofs.YtbbaooeioogijaaDoor
open Go.ChangeShapes Go.WideShapes Go.ChangeAt Go.RowKit Go.Deep

def ndCells (x : Nd) : List Value := [.int .i64 x.kind, .int .i64 x.n, .int .i64 x.at_, .int .i64 x.int, .string x.text, .string x.type]
def ndV (x : Nd) : Value := .agg #[.int .i64 x.kind, .int .i64 x.n, .int .i64 x.at_, .int .i64 x.int, .string x.text, .string x.type]
/-- a node in a block of its own -/
abbrev ndObj (x : Nd) : Obj := .cells #[.int .i64 x.kind, .int .i64 x.n, .int .i64 x.at_, .int .i64 x.int, .string x.text, .string x.type] 48
theorem six_block {w : World} {b : Nat} {a0 a1 a2 a3 a4 a5 : Value} {T : TypeId} (h : w.heap[b]? = some (.cells #[a0, a1, a2, a3, a4, a5] T (0, 0))) :
    (w.cell? ⟨b, 0, none⟩ = some a0 ∧ w.cell? ⟨b, 1, none⟩ = some a1 ∧ w.cell? ⟨b, 2, none⟩ = some a2 ∧ w.cell? ⟨b, 3, none⟩ = some a3 ∧ w.cell? ⟨b, 4, none⟩ = some a4 ∧ w.cell? ⟨b, 5, none⟩ = some a5) ∧ ∀ j, w.frozen? ⟨b, j, none⟩ = false := by
  refine ⟨⟨?_, ?_, ?_, ?_, ?_, ?_⟩, fun j => ?_⟩ <;> simp [World.cell?, World.frozen?, h]
/-- nodes, each of six cells -/
abbrev IsNds (B : Nat) (w : World) (a : Option Addr) (t : List Nd) : Prop := IsSl 6 ndCells B w a t
theorem nds_at {B : Nat} {w : World} {a : Option Addr} {t : List Nd} (h : IsNds B w a t) {i : Nat} (hi : i < t.length) : ∃ b off, a = some ⟨b, off, none⟩ ∧ b < B ∧
    w.cell? ⟨b, off + i * 6, none⟩ = some (.int .i64 t[i].kind) ∧ w.cell? ⟨b, off + i * 6 + 1, none⟩ = some (.int .i64 t[i].n) ∧ w.cell? ⟨b, off + i * 6 + 2, none⟩ = some (.int .i64 t[i].at_) ∧ w.cell? ⟨b, off + i * 6 + 3, none⟩ = some (.int .i64 t[i].int) ∧ w.cell? ⟨b, off + i * 6 + 4, none⟩ = some (.string t[i].text) ∧ w.cell? ⟨b, off + i * 6 + 5, none⟩ = some (.string t[i].type) := by
  obtain ⟨b, off, e, hlt, hc⟩ := h (fun e => by rw [e] at hi; simp at hi)
  have hx := List.getElem?_eq_getElem hi
  exact ⟨b, off, e, hlt, hc i _ hx 0 _ rfl, hc i _ hx 1 _ rfl, hc i _ hx 2 _ rfl, hc i _ hx 3 _ rfl, hc i _ hx 4 _ rfl, hc i _ hx 5 _ rfl⟩

section
variable {H : Type} {enc : TypeId × Value → H} {w : World} {base : Nat} {spare : Nat → Bool} {held : Bool}
def ndData (x : Nd) : DataW H := .agg [.lit (.int .i64 x.kind), .lit (.int .i64 x.n), .lit (.int .i64 x.at_), .lit (.int .i64 x.int), .lit (.string x.text.data.toList), .lit (.string x.type.data.toList)]
theorem cellsNd : Tryd.prog.cellsOf 48 = 6 := by kernel_rfl
theorem cellsI9 : Tryd.prog.cellsOf 3 = 1 := by kernel_rfl
theorem cellsS9 : Tryd.prog.cellsOf 9 = 1 := by kernel_rfl
theorem cellsT9 : Tryd.prog.cellsOf 39 = 1 := by kernel_rfl
def i64In (n : Int) : Prop := -9223372036854775808 ≤ n ∧ n ≤ 9223372036854775807
def NdOk (x : Nd) : Prop := i64In x.kind ∧ i64In x.n ∧ i64In x.at_ ∧ i64In x.int
set_option maxRecDepth 100000 in
theorem open_nd {n : Nat} {cs : List Value} {D : DataW H} {pl : List MemPlace} (h : DataW.trod enc Tryd.prog w base spare held n 48 cs = some (D, pl)) :
    ∃ x : Nd, cs = ndCells x ∧ D = ndData x ∧ NdOk x := by
  obtain ⟨xs, n', _, hx, hlen, hxs, hf⟩ := DataW.trod_struct Tryd.underlying48 h
  rw [cellsNd] at hlen
  match cs, hlen with
  | [c0, c1, c2, c3, c4, c5], _ =>
    match xs, hxs with
    | [y0, y1, y2, y3, y4, y5], _ =>
      have f0 := hf 0 _ rfl
      have f1 := hf 1 _ rfl
      have f2 := hf 2 _ rfl
      have f3 := hf 3 _ rfl
      have f4 := hf 4 _ rfl
      have f5 := hf 5 _ rfl
      simp [cellsI9] at f0 f1 f2 f3
      simp [cellsS9] at f4
      simp [cellsT9] at f5
      obtain ⟨a0, e0, r0, w0⟩ := DataW.trod_int Tryd.underlying3 f0
      obtain ⟨a1, e1, r1, w1⟩ := DataW.trod_int Tryd.underlying3 f1
      obtain ⟨a2, e2, r2, w2⟩ := DataW.trod_int Tryd.underlying3 f2
      obtain ⟨a3, e3, r3, w3⟩ := DataW.trod_int Tryd.underlying3 f3
      obtain ⟨a4, e4, r4, _⟩ := DataW.trod_string Tryd.underlying9 f4
      obtain ⟨a5, e5, r5, _⟩ := DataW.trod_string Tryd.underlying39 f5
      simp only [List.cons.injEq, and_true] at e0 e1 e2 e3 e4 e5
      subst e0 e1 e2 e3 e4 e5 r0 r1 r2 r3 r4 r5
      exact ⟨⟨a0, a1, a2, a3, a4, a5⟩, rfl, congrArg Prod.fst hx, bounds_i64 w0, bounds_i64 w1, bounds_i64 w2, bounds_i64 w3⟩
/-- the whole argument -/
theorem open_tree {fuel : Nat} {v : Value} {x : DataW H × List MemPlace} (h : DataW.trod enc Tryd.prog w base spare held fuel 42 [v] = some x) :
    ∃ (a : Option Addr) (cap : Nat) (Q : List Nd), v = .slice a Q.length cap ∧ Q.length ≤ cap ∧ cap ≤ maxLen ∧ (a = none → Q = [] ∧ cap = 0) ∧ ((x.1 = .nil ∧ Q = []) ∨ ∃ rest, x.1 = .slice (Q.map ndData) rest) ∧ IsNds w.heap.size w a Q ∧ ∀ q ∈ Q, NdOk q :=
  open_list (by decide) Tryd.underlying42 cellsNd ndCells ndData NdOk (fun h => open_nd h) h
end
end Go.Proofs.YtbbaooeioogijaaDoor
namespace Go.Proofs.YtbbaooeioogijaaDoor
open Go.RowKit

theorem flat_len {α : Type} {k : Nat} {cells : α → List Value} (hk : ∀ a, (cells a).length = k) : ∀ L : List α, (L.flatMap cells).length = L.length * k
  | [] => by simp
  | a :: L => by rw [List.flatMap_cons, List.length_append, hk, flat_len hk L, List.length_cons, Nat.add_mul]; omega
theorem flat_at {α : Type} {k : Nat} {cells : α → List Value} (hk : ∀ a, (cells a).length = k) : ∀ {L : List α} {i j : Nat} {a : α} {u : Value}, L[i]? = some a → (cells a)[j]? = some u → (L.flatMap cells)[i * k + j]? = some u
  | [], _, _, _, _, h, _ => by simp at h
  | b :: L, 0, j, a, u, h, hu => by
    obtain rfl := Option.some.inj h
    have hj := (List.getElem?_eq_some_iff.1 hu).1
    rw [List.flatMap_cons, Nat.zero_mul, Nat.zero_add, List.getElem?_append_left hj]
    exact hu
  | b :: L, i + 1, j, a, u, h, hu => by
    rw [List.flatMap_cons, List.getElem?_append_right (by rw [hk, Nat.add_mul]; omega), hk, show (i + 1) * k + j - k = i * k + j by rw [Nat.add_mul]; omega]
    exact flat_at hk (by simpa using h) hu
theorem flat_inv {α : Type} {k : Nat} {cells : α → List Value} (hk : ∀ a, (cells a).length = k) : ∀ {L : List α} {q : Nat} {u : Value}, (L.flatMap cells)[q]? = some u → ∃ (i j : Nat) (a : α), q = i * k + j ∧ L[i]? = some a ∧ (cells a)[j]? = some u
  | [], _, _, h => by simp at h
  | b :: L, q, u, h => by
    rw [List.flatMap_cons] at h
    rcases Nat.lt_or_ge q (cells b).length with hlt | hge
    · rw [List.getElem?_append_left hlt] at h
      exact ⟨0, q, b, by omega, rfl, h⟩
    · rw [List.getElem?_append_right hge, hk] at h
      obtain ⟨i, j, a, e, h1, h2⟩ := flat_inv hk h
      rw [hk] at hge
      exact ⟨i + 1, j, a, by rw [Nat.add_mul]; omega, by simpa using h1, h2⟩
theorem addN (b off j : Nat) : (⟨b, off, none⟩ : Addr).add j = ⟨b, off + j, none⟩ := by unfold Addr.add; split <;> simp_all
/-- what is appended out of a slice -/
theorem sl_news {α : Type} {k : Nat} {cells : α → List Value} (hk : ∀ a, (cells a).length = k) {B : Nat} {w : World} {ad : Addr} {L : List α} (h : IsSl k cells B w (some ad) L) : ∀ (q : Nat) u, (L.flatMap cells)[q]? = some u → w.cell? (ad.add q) = some u := fun q u hu => by
  obtain ⟨i, j, a, rfl, ha, hj⟩ := flat_inv hk hu
  obtain ⟨b, off, e, _, hc⟩ := h (fun e => by rw [e] at ha; simp at ha)
  obtain rfl := Option.some.inj e
  rw [addN, ← Nat.add_assoc]
  exact hc i a ha j u hj
/-- a row of one's own is a slice -/
theorem own_sl {α : Type} {k : Nat} {cells : α → List Value} (hk : ∀ a, (cells a).length = k) {w : World} {base n : Nat} {T : TypeId} {v : Value} {L : List α} (h : w.ownsRow base T k v n (L.flatMap cells)) (hn : n = L.length) : ∃ a cap, v = .slice a L.length cap ∧ IsSl k cells w.heap.size w a L ∧ (a = none → L = [] ∧ cap = 0) := by
  subst hn
  rcases h.2 with ⟨rfl, h0⟩ | ⟨g, cap, cur, rfl, _, hg, _⟩
  · have : L = [] := List.eq_nil_of_length_eq_zero h0
    subst this
    exact ⟨none, 0, rfl, isSl_nil, fun _ => ⟨rfl, rfl⟩⟩
  · refine ⟨_, cap, rfl, fun _ => ⟨g, 0, rfl, lt_of_heap hg, fun i a ha j u hu => ?_⟩, fun h => by cases h⟩
    have := h.cells (g := g) rfl _ _ (flat_at hk ha hu)
    rw [addN, ← Nat.add_assoc] at this
    exact this
/-- its cells, at a known block -/
theorem own_cell {α : Type} {k : Nat} {cells : α → List Value} (hk : ∀ a, (cells a).length = k) {w : World} {base n g cap : Nat} {T : TypeId} {L : List α} (h : w.ownsRow base T k (.slice (some ⟨g, 0, none⟩) n cap) n (L.flatMap cells)) {i j : Nat} {a : α} {u : Value} (ha : L[i]? = some a) (hu : (cells a)[j]? = some u) : w.cell? ⟨g, i * k + j, none⟩ = some u := by
  have := h.cells (g := g) rfl _ _ (flat_at hk ha hu)
  rw [addN, Nat.zero_add] at this
  exact this
/-- the first so many of a row -/
theorem own_take {w : World} {base n g cap size : Nat} {T : TypeId} {xs : List Value} (h : w.ownsRow base T size (.slice (some ⟨g, 0, none⟩) n cap) n xs) {m : Nat} (hm : m ≤ n) : w.ownsRow base T size (.slice (some ⟨g, 0, none⟩) m cap) m (xs.take (m * size)) := by
  obtain ⟨h1, h2 | ⟨g', cap', cur, e, hb, hg, hnc, hcm, hcs, ht⟩⟩ := h
  · simp at h2
  · simp only [Value.slice.injEq, Option.some.injEq, Addr.mk.injEq, and_true, true_and] at e
    obtain ⟨rfl, rfl⟩ := e
    have hle : m * size ≤ n * size := Nat.mul_le_mul_right size hm
    refine ⟨by rw [List.length_take]; omega, .inr ⟨g, cap, cur, rfl, hb, hg, by omega, hcm, hcs, ?_⟩⟩
    rw [← ht, List.take_take, Nat.min_eq_left hle]
end Go.Proofs.YtbbaooeioogijaaDoor
namespace Go.Proofs.YtbbaooeioogijaaDoor
open Go.RowKit

def isC (c : UInt8) : Ty → Bool
  | .base d => decide (d = c)
  | _ => false
/-- what is told of a function's parts -/
def SignP (r : Option Ty) (w : World) (e : Ending) (w' : World) : Prop :=
  (match r with
    | none => e = .returned (.tuple #[.string ⟨#[]⟩, .slice none 0 0, .int .i64 2])
    | some (.fn ps r) => ∃ v, e = .returned (.tuple #[.string (tyB r), v, .int .i64 0]) ∧ w'.ownsRow w.heap.size 39 1 v ps.length (ps.map fun p => .string (tyB p))
    | some _ => e = .returned (.tuple #[.string ⟨#[]⟩, .slice none 0 0, .int .i64 5])) ∧ Below w.heap.size w w'
theorem base_six {c : UInt8} (h : isBase c = true) : c = 118 ∨ c = 99 ∨ c = 115 ∨ c = 105 ∨ c = 117 ∨ c = 106 := by
  unfold isBase at h
  rw [List.contains_iff_mem] at h
  simpa using h
/-- the first letter of a type, as the tests ask -/
def headT : Ty → UInt8
  | .base c => c
  | .ptr _ => 112
  | .arr _ _ => 97
  | .str _ => 83
  | .fn _ _ => 102
theorem tyB_head (t : Ty) : ∃ h : 0 < (tyB t).size, (tyB t)[0] = headT t := by
  cases t with
  | base c => exact tyB_get (t := .base c) rfl
  | ptr u => exact tyB_get (t := .ptr u) rfl
  | arr n u => exact tyB_get (t := .arr n u) rfl
  | str n => exact tyB_get (t := .str n) rfl
  | fn ps r => exact tyB_get (t := .fn ps r) rfl
theorem ne_true {s : ByteArray} {h : 0 < s.size} {c d : UInt8} (hc : s[0] = c) (hd : c ≠ d) : ((s[0].toNat : Int) != (d.toNat : Int)) = true := by
  rw [hc, bne_iff_ne]
  intro e
  exact hd (UInt8.toNat_inj.1 (by omega))
theorem ne_false {s : ByteArray} {h : 0 < s.size} {c : UInt8} (hc : s[0] = c) : ((s[0].toNat : Int) != (c.toNat : Int)) = false := by rw [hc]; simp
theorem eq_false' {s : ByteArray} {h : 0 < s.size} {c d : UInt8} (hc : s[0] = c) (hd : c ≠ d) : ((s[0].toNat : Int) == (d.toNat : Int)) = false := by
  rw [hc, beq_eq_false_iff_ne]
  intro e
  exact hd (UInt8.toNat_inj.1 (by omega))
theorem eq_true' {s : ByteArray} {h : 0 < s.size} {c : UInt8} (hc : s[0] = c) : ((s[0].toNat : Int) == (c.toNat : Int)) = true := by rw [hc]; simp

end Go.Proofs.YtbbaooeioogijaaDoor
namespace Go.Proofs.YtbbaooeioogijaaDoor
open Go.RowKit

theorem one_is {t : Ty} (h : Right t) (c : UInt8) : ((tyB t).toList == [c]) = isC c t := by
  rw [str_one, Bool.eq_iff_iff, decide_eq_true_iff, one_base h]
  cases t <;> simp [isC]
end Go.Proofs.YtbbaooeioogijaaDoor
