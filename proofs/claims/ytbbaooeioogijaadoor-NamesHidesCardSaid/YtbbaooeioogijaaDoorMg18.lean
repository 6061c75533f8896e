/- The rows' last step, alike for all laws: the arguments read as before in any world that keeps what lay below; what the bound on the bulk gives. · What is wrong with a unit. Plain: nothing of the program. · Maps from names to what they stand for; from names to numbers. By what is looked up in them. · What the names of a file stand for. Plain: nothing of the program. -/
import Derived.Test.YtbbaooeioogijaaDoorRows
import Derived.Test.YtbbaooeioogijaaDoorMg1
import Derived.ProofKit
import Derived.OpenShut
import Derived.JoinedCond
import Derived.Test.YtbbaooeioogijaaDoorMg17
import Derived.Below
import Derived.Maps.OwnSet
import Derived.Maps.OwnOps
namespace Go.Proofs.YtbbaooeioogijaaDoor
open Go.ChangeShapes Go.WideShapes Go.ChangeAt Go.RowKit

theorem laidOut : laidOutB Tryd.prog = true := by kernel_rfl

section
variable {H : Type} {enc : TypeId × Value → H}
theorem all_stays {W W' : World} (hb : Below W.heap.size W W') : ∀ {ts : List TypeId} {vs : List Value} {ds : List (DataW H)} {ps : List MemPlace}, DataW.TrodAll enc Tryd.prog W 0 (fun _ => true) true ts vs ds ps →
    (∀ t ∈ ts, Tryd.prog.readableRec t = true ∧ t < Tryd.prog.types.size) → (∀ x ∈ ps, x.block < W.heap.size) → DataW.TrodAll enc Tryd.prog W' 0 (fun b => decide (b < W.heap.size)) true ts vs ds ps
  | [], vs, ds, ps, h, _, _ => by
    obtain ⟨rfl, rfl, rfl⟩ := trodAll_nil h
    exact trodAll_mk0
  | t :: ts, vs, ds, ps, h, ht, hx => by
    obtain ⟨v0, vs0, d0, ds0, p0, q0, rfl, rfl, rfl, h0, r0⟩ := trodAll_cons h
    have h1 := Below.trod laidOut (ht t (by simp)).1 (ht t (by simp)).2 h0 hb (fun x hxm => hx x (List.mem_append.2 (Or.inl hxm)))
    have h2 := all_stays hb r0 (fun u hu => ht u (by simp [hu])) (fun x hxm => hx x (List.mem_append.2 (Or.inr hxm)))
    exact trodAll_cons_mk h1 h2

/-- the last step of a law that tells 'true' -/
theorem law_post {f : Func} {s : ChangeSpec} {W W' : World} {args : Array Value} {ds : List (DataW H)} {before : List MemPlace}
    (hW : DataW.Whole enc Tryd.prog f.params.toList s.vars false W args.toList ds [] before) (hv : s.vars = []) (hr : f.resultTypes.toList = [4]) (hsz : f.resultTypes.size = 1)
    (hts : ∀ t ∈ f.params.toList, Tryd.prog.readableRec t = true ∧ t < Tryd.prog.types.size)
    (hfn : s.fn H (ds ++ []) = { results := [.lit (.bool true)], args := ds }) (hb : Below W.heap.size W W') : s.post enc Tryd.prog f false true false false W args (.bool true) W' := by
  have hlt : ∀ p ∈ before, p.block < W.heap.size := fun p hp => hW.lt p hp
  have hW0 := hW
  obtain ⟨p, q, hA, hV, rfl, _, _⟩ := hW0
  rw [hv] at hV
  obtain ⟨_, rfl⟩ := trodVars_none hV
  refine ⟨ds, [], p ++ [], [], p, [], hW, ?_, ?_, ?_, World.keptBut_mono (fun x hx => ⟨hx, Or.inr ?_⟩) (hb.frame (· ∈ p ++ [])), fun h => by cases h⟩
  · rw [hfn, hr, hsz]
    exact trodAll_cons_mk (shut_bool Tryd.underlying4 _) trodAll_mk0
  · rw [hfn]
    exact all_stays hb hA hts (fun x hx => hlt x (by simp [hx]))
  · rw [hfn, hv]
    exact rfl
  · exact List.mem_append.1 hx
end

end Go.Proofs.YtbbaooeioogijaaDoor
namespace Go.Proofs.YtbbaooeioogijaaDoor

theorem there_nil {K : List Kn} : ∀ t : Ty, thereT [] t = true → thereT K t = true ∧ measT K t = measT [] t
  | .base _, _ => ⟨rfl, rfl⟩
  | .ptr _, _ => ⟨rfl, rfl⟩
  | .arr n t, h => by
    obtain ⟨h1, h2⟩ := there_nil (K := K) t h
    exact ⟨h1, by rw [measT, measT, h2]⟩
  | .str s, h => by simp [thereT, findK] at h
  | .fn _ _, _ => ⟨rfl, rfl⟩
mutual
theorem sized_nil {K : List Kn} : ∀ t : Ty, sizedT K t = true → sizedT [] t = true
  | .base _, _ => rfl
  | .ptr t, h => sized_nil t h
  | .arr n t, h => by
    rw [sizedT, Bool.and_eq_true] at h ⊢
    refine ⟨sized_nil t h.1, ?_⟩
    rcases ht : thereT [] t with _ | _
    · rfl
    · obtain ⟨h1, h2⟩ := there_nil (K := K) t ht
      have := h.2
      rw [h1, h2] at this
      simpa using this
  | .str _, _ => rfl
  | .fn ps r, h => by
    rw [sizedT, Bool.and_eq_true] at h ⊢
    exact ⟨sized_nil r h.1, sizeds_nil ps h.2⟩
theorem sizeds_nil {K : List Kn} : ∀ l : List Ty, sizedsT K l = true → sizedsT [] l = true
  | [], _ => rfl
  | t :: l, h => by
    rw [sizedsT, Bool.and_eq_true] at h ⊢
    exact ⟨sized_nil t h.1, sizeds_nil l h.2⟩
end
theorem checkT_typed {K : List Kn} {t : Ty} (h : checkT K t = 0) : checkT [] t = 0 ∨ checkT [] t = 4 := by
  unfold checkT at h ⊢
  split at h
  · cases h
  rename_i h1
  split at h
  · cases h
  rename_i h2
  split at h
  · cases h
  split at h
  · cases h
  rename_i h4
  rw [if_neg h1, if_neg h2]
  rcases hth : thereT [] t with _ | _
  · exact .inr rfl
  · have := sized_nil (K := K) t (by simpa using h4)
    exact .inl (by simp [this])
theorem checkS_typed {K : List Kn} {s : ByteArray} (h : checkS K s = 0) : typedS s = true := by
  have key : checkS [] s = 0 ∨ checkS [] s = 4 := by
    unfold checkS at h ⊢
    rcases ht : tyS s with _ | t
    · rw [ht] at h; cases h
    · rw [ht] at h
      exact checkT_typed h
  unfold typedS
  exact decide_eq_true key
theorem checkN_typed {L : List Sr} {s : ByteArray} (h : checkN L s = 0) : typedS s = true := by
  unfold checkN at h
  split at h
  · rename_i h1; exact absurd h (learnK_ne h1)
  · exact checkS_typed h
/-- the first thing that is wrong: its place, what it is -/
def firstE {α : Type} (f : α → Int) : List α → Nat → Option (Int × Int)
  | [], _ => none
  | x :: r, i => if f x ≠ 0 then some ((i : Int), f x) else firstE f r (i + 1)
theorem firstE_skip {α : Type} {f : α → Int} : ∀ {L : List α} {k : Nat} (n : Nat), (∀ (j : Nat) (h : j < L.length), j < k → f L[j] = 0) → firstE f L n = firstE f (L.drop k) (n + k)
  | L, 0, n, _ => by rw [List.drop_zero, Nat.add_zero]
  | [], k + 1, n, _ => by simp [firstE]
  | x :: r, k + 1, n, h => by
    rw [firstE, if_neg (by have := h 0 (by simp) (by omega); simpa using this), List.drop_succ_cons, firstE_skip (k := k) (n + 1) (fun j hj hjk => by have := h (j + 1) (by simpa using hj) (by omega); simpa using this)]
    congr 1
    omega
theorem firstE_none {α : Type} {f : α → Int} {L : List α} (h : ∀ (j : Nat) (hj : j < L.length), j < L.length → f L[j] = 0) : firstE f L 0 = none := by
  rw [firstE_skip (k := L.length) 0 h, List.drop_length]
  rfl
theorem firstE_some {α : Type} {f : α → Int} {L : List α} {i : Nat} (hi : i < L.length) (h : ∀ (j : Nat) (hj : j < L.length), j < i → f L[j] = 0) (hf : f L[i] ≠ 0) : firstE f L 0 = some ((i : Int), f L[i]) := by
  rw [firstE_skip (k := i) 0 h, List.drop_eq_getElem_cons hi, firstE, if_pos hf, Nat.zero_add]
/-- what is wrong with one of a global's expressions -/
def itemE (T : List Nd) : Int := if checkN9 T ≠ 0 then checkN9 T else if exprK (kindAt T (T.length - 1)) = false then 90 else 0
def codeE : Option (Int × Int) → Int
  | none => 0
  | some p => p.2
def headG (L : List Sr) (g : GlU) : Bool := isNameB g.var.name && (decide (0 ≤ g.at_ ∧ g.at_ ≤ 65536) && (decide (checkN L g.var.type = 0) && objectS g.var.type))
def globE (L : List Sr) (g : GlU) : Int := if headG L g = false then 90 else if 4096 < g.init.length then 3 else codeE (firstE itemE g.init 0)
/-- a parameter as its function's type has it -/
def parmE (body : Bool) (q : VrU × Ty) : Int := if q.1.type = tyB q.2 ∧ (isNameB q.1.name = true ∨ (q.1.name = ⟨#[]⟩ ∧ body = false)) ∧ (body = true ∨ q.1.vol = false) then 0 else 90
def headF (L : List Sr) (f : FnU) : Bool := isNameB f.name && (decide (0 ≤ f.at_ ∧ f.at_ ≤ 65536) && decide (checkN L f.type = 0))
def bodyE (T : List Nd) : Int := if T = [] then 0 else if checkN9 T ≠ 0 then checkN9 T else if kindAt T (T.length - 1) ≠ 21 then 90 else 0
def funcE (L : List Sr) (f : FnU) : Int := match tyS f.type with
  | some (.fn ps _) => if headF L f = false ∨ ps.length ≠ f.params.length then 90 else if codeE (firstE (parmE (decide (f.body ≠ []))) (f.params.zip ps) 0) ≠ 0 then 90 else bodyE f.body
  | _ => 90
/-- what is wrong with a unit -/
def unitE (u : UnU) : Int × Int :=
  if 64 < u.structs.length ∨ 256 < u.globals.length ∨ 256 < u.funcs.length then (0, 3)
  else if (faultN u.structs).2 ≠ 0 then faultN u.structs
  else match firstE (globE u.structs) u.globals 0 with
    | some p => p
    | none => match firstE (funcE u.structs) u.funcs 0 with
      | some p => p
      | none => (0, 0)
end Go.Proofs.YtbbaooeioogijaaDoor
namespace Go.Proofs.YtbbaooeioogijaaDoor
open Go.RowKit Go.Maps

/-- what a name stands for -/
structure Bnd where
  kind : Int
  idx : Int
  type : ByteArray
deriving DecidableEq
def bnd0 : Bnd := ⟨0, 0, ⟨#[]⟩⟩
def bndV (b : Bnd) : Value := .agg #[.int .i64 b.kind, .int .i64 b.idx, .string b.type]
def bndCells (b : Bnd) : List Value := [.int .i64 b.kind, .int .i64 b.idx, .string b.type]
def bndD (b : Bnd) : DataW Unit := .agg [.lit (.int .i64 b.kind), .lit (.int .i64 b.idx), .lit (.string b.type.data.toList)]
/-- how such a value reads -/
def bndR (v : Value) : Option (DataW Unit × List MemPlace) := match v with
  | .agg ⟨[.int .i64 k, .int .i64 i, .string t]⟩ => some (bndD ⟨k, i, t⟩, [])
  | _ => none
theorem bndR_of (b : Bnd) : bndR (bndV b) = some (bndD b, []) := rfl
theorem bndD_inj {a b : Bnd} (h : bndD a = bndD b) : a = b := by
  obtain ⟨k, i, t⟩ := a
  obtain ⟨k', i', t'⟩ := b
  unfold bndD at h
  simp only [DataW.agg.injEq, List.cons.injEq, DataW.lit.injEq, Lit.int.injEq, Lit.string.injEq, true_and, and_true] at h
  obtain ⟨rfl, rfl, h⟩ := h
  have : t = t' := by cases t; cases t'; simpa using h
  rw [this]
theorem bndR_inv {v : Value} {b : Bnd} {ps : List MemPlace} (h : bndR v = some (bndD b, ps)) : v = bndV b := by
  unfold bndR at h
  split at h
  · rename_i k i t
    simp only [Option.some.injEq, Prod.mk.injEq] at h
    have := bndD_inj h.1
    rw [← this]
    rfl
  · cases h
theorem bytes_inj {t s : ByteArray} (h : t.data.toList = s.data.toList) : t = s := by cases t; cases s; simpa using h
theorem keyedB : Keyed Tryd.prog 9 := string_keyed Tryd.underlying9
theorem zeroB (w : World) : (zeroValue 50).run Tryd.prog w = .ok (bndV bnd0) w := by kernel_rfl
/-- block b is a map of at most n names that gives f -/
def MapB (w : World) (b n : Nat) (f : ByteArray → Option Bnd) : Prop := ∃ D : DataW Unit, w.ownsMap Tryd.prog 9 bndR b n D ∧
  ∀ s : ByteArray, has D (.string s.data.toList) = (f s).isSome ∧ D.atKey (.string s.data.toList) (bndD bnd0) = bndD ((f s).getD bnd0)
theorem MapB.same {w : World} {b n : Nat} {f g : ByteArray → Option Bnd} (h : MapB w b n f) (e : ∀ s, f s = g s) : MapB w b n g := by
  obtain ⟨D, hD, hv⟩ := h
  exact ⟨D, hD, fun s => by rw [← e s]; exact hv s⟩
theorem MapB.look2 {w : World} {b n : Nat} {f : ByteArray → Option Bnd} (h : MapB w b n f) {s : ByteArray} (hs : s.size ≤ maxLen) :
    (Instr.lookup 79 (.map (some b)) (.string s) true).run Tryd.prog w = .ok (.tuple #[bndV ((f s).getD bnd0), .bool (f s).isSome]) w := by
  obtain ⟨D, hD, hv⟩ := h
  have hkey := Go.WideMaps.keyOf_string_mk (P := Tryd.prog) Tryd.underlying9 hs
  obtain ⟨v, ps, hrun, hR⟩ := hD.look_ok keyedB Tryd.underlying79 (zeroB w) (bndR_of bnd0) hkey
  obtain ⟨h1, h2⟩ := hv s
  rw [h1] at hrun
  rw [h2] at hR
  rw [bndR_inv hR] at hrun
  exact hrun
theorem MapB.below {w w' : World} {b n : Nat} {f : ByteArray → Option Bnd} (h : MapB w b n f) (hb : Below w.heap.size w w') : MapB w' b n f := by
  obtain ⟨D, hD, hv⟩ := h
  exact ⟨D, hD.kept (row := none) ⟨hb.os, hb.tape, hb.output, hb.size, fun k hk _ => hb.block k hk⟩ (by simp), hv⟩
theorem MapB.kept {w w' : World} {b n : Nat} {f : ByteArray → Option Bnd} {row : Option Nat} (h : MapB w b n f) (hg : w.grownBy w' row) (hne : some b ≠ row) : MapB w' b n f := by
  obtain ⟨D, hD, hv⟩ := h
  exact ⟨D, hD.kept hg hne, hv⟩
theorem MapB.other {w : World} {b n : Nat} {f : ByteArray → Option Bnd} (h : MapB w b n f) (a : Addr) (ha : b ≠ a.block) (v : Value) : MapB (w.setCell a v) b n f := by
  obtain ⟨D, hD, hv⟩ := h
  exact ⟨D, hD.setCell ha v, hv⟩
theorem MapB.lt {w : World} {b n : Nat} {f : ByteArray → Option Bnd} (h : MapB w b n f) : b < w.heap.size := by
  obtain ⟨D, hD, _⟩ := h
  exact hD.lt
theorem mapB_nil {w : World} : MapB (w.alloc (.map #[] 0)) w.heap.size 0 (fun _ => none) :=
  ⟨.map [], World.ownsMap_made _ _ _ _, fun _ => ⟨rfl, rfl⟩⟩
theorem MapB.store {w : World} {b n : Nat} {f : ByteArray → Option Bnd} (h : MapB w b n f) (hn : n < maxLen) {s : ByteArray} (hs : s.size ≤ maxLen) (v : Bnd) :
    ∃ w', (Instr.mapUpdate 79 (.map (some b)) (.string s) (bndV v)).run Tryd.prog w = .ok () w' ∧
      MapB w' b (n + 1) (fun t => if t = s then some v else f t) ∧ w.mapTurned w' b := by
  obtain ⟨D, hD, hf⟩ := h
  have hkey := Go.WideMaps.keyOf_string_mk (P := Tryd.prog) Tryd.underlying9 hs
  obtain ⟨w', hrun, h1, h2⟩ := hD.store keyedB Tryd.underlying79 hn hkey (bndR_of v)
  refine ⟨w', hrun, ⟨_, h1, fun t => ?_⟩, h2⟩
  by_cases e : t = s
  · subst e
    simp only [if_true]
    exact ⟨has_put_same hD.isMap (by simp [WideAt.IsKeyLit]) _, atKey_put_same hD.isMap (by simp [WideAt.IsKeyLit]) _ _⟩
  · simp only [if_neg e]
    have e' : Lit.string t.data.toList ≠ Lit.string s.data.toList := fun h => e (bytes_inj (Lit.string.inj h))
    rw [has_put_other e', atKey_put_other e']
    exact hf t
/-- block b is a map of at most n names that gives numbers -/
def MapN (w : World) (b n : Nat) (f : ByteArray → Int) : Prop := ∃ D : DataW Unit, w.ownsMap Tryd.prog 9 (plainElem Tryd.prog 3) b n D ∧
  ∀ s : ByteArray, D.atKey (.string s.data.toList) (.lit (.int .i64 0)) = .lit (.int .i64 (f s))
theorem zeroN (w : World) : (zeroValue 3).run Tryd.prog w = .ok (.int .i64 0) w := by kernel_rfl
theorem MapN.look {w : World} {b n : Nat} {f : ByteArray → Int} (h : MapN w b n f) {s : ByteArray} (hs : s.size ≤ maxLen) :
    (Instr.lookup 92 (.map (some b)) (.string s) false).run Tryd.prog w = .ok (.int .i64 (f s)) w := by
  obtain ⟨D, hD, hv⟩ := h
  have hkey := Go.WideMaps.keyOf_string_mk (P := Tryd.prog) Tryd.underlying9 hs
  obtain ⟨c, hrun, hat, _⟩ := hD.lookup_int keyedB Tryd.underlying92 Tryd.underlying3 (zeroN w) hkey
  rw [hv s] at hat
  simp only [DataW.lit.injEq, Lit.int.injEq, true_and] at hat
  rw [hat]; exact hrun
theorem MapN.kept {w w' : World} {b n : Nat} {f : ByteArray → Int} {row : Option Nat} (h : MapN w b n f) (hg : w.grownBy w' row) (hne : some b ≠ row) : MapN w' b n f := by
  obtain ⟨D, hD, hv⟩ := h
  exact ⟨D, hD.kept hg hne, hv⟩
theorem MapN.below {w w' : World} {b n : Nat} {f : ByteArray → Int} (h : MapN w b n f) (hb : Below w.heap.size w w') : MapN w' b n f :=
  h.kept (row := none) ⟨hb.os, hb.tape, hb.output, hb.size, fun k hk _ => hb.block k hk⟩ (by simp)
theorem MapN.other {w : World} {b n : Nat} {f : ByteArray → Int} (h : MapN w b n f) (a : Addr) (ha : b ≠ a.block) (v : Value) : MapN (w.setCell a v) b n f := by
  obtain ⟨D, hD, hv⟩ := h
  exact ⟨D, hD.setCell ha v, hv⟩
theorem MapN.lt {w : World} {b n : Nat} {f : ByteArray → Int} (h : MapN w b n f) : b < w.heap.size := by
  obtain ⟨D, hD, _⟩ := h
  exact hD.lt
theorem mapN_nil {w : World} : MapN (w.alloc (.map #[] 0)) w.heap.size 0 (fun _ => 0) :=
  ⟨.map [], World.ownsMap_made _ _ _ _, fun _ => rfl⟩
theorem MapN.store {w : World} {b n : Nat} {f : ByteArray → Int} (h : MapN w b n f) (hn : n < maxLen) {s : ByteArray} (hs : s.size ≤ maxLen) {v : Int} (hv : (Lit.int .i64 v).wf = true) :
    ∃ w', (Instr.mapUpdate 92 (.map (some b)) (.string s) (.int .i64 v)).run Tryd.prog w = .ok () w' ∧
      MapN w' b (n + 1) (fun t => if t = s then v else f t) ∧ w.mapTurned w' b := by
  obtain ⟨D, hD, hf⟩ := h
  have hkey := Go.WideMaps.keyOf_string_mk (P := Tryd.prog) Tryd.underlying9 hs
  obtain ⟨w', hrun, h1, h2⟩ := hD.store keyedB Tryd.underlying92 hn hkey (plainElem_int (H := Unit) Tryd.underlying3 hv)
  refine ⟨w', hrun, ⟨_, h1, fun t => ?_⟩, h2⟩
  by_cases e : t = s
  · subst e
    simp only [if_true]
    exact atKey_put_same hD.isMap (by simp [WideAt.IsKeyLit]) _ _
  · simp only [if_neg e]
    have e' : Lit.string t.data.toList ≠ Lit.string s.data.toList := fun h => e (bytes_inj (Lit.string.inj h))
    rw [atKey_put_other e']
    exact hf t
end Go.Proofs.YtbbaooeioogijaaDoor
namespace Go.Proofs.YtbbaooeioogijaaDoor

/-- the built-in functions: names, types -/
def builtL : List (ByteArray × ByteArray) := [(⟨#[103, 101, 116, 99, 104, 97, 114]⟩, ⟨#[102, 40, 41, 105]⟩), (⟨#[112, 117, 116, 99, 104, 97, 114]⟩, ⟨#[102, 40, 105, 41, 105]⟩), (⟨#[101, 120, 105, 116]⟩, ⟨#[102, 40, 105, 41, 118]⟩), (⟨#[115, 101, 116, 106, 109, 112]⟩, ⟨#[102, 40, 112, 106, 41, 105]⟩), (⟨#[108, 111, 110, 103, 106, 109, 112]⟩, ⟨#[102, 40, 112, 106, 44, 105, 41, 118]⟩), (⟨#[99, 111, 95, 110, 101, 119]⟩, ⟨#[102, 40, 112, 102, 40, 105, 41, 105, 44, 105, 44, 105, 41, 105]⟩), (⟨#[99, 111, 95, 114, 101, 115, 117, 109, 101]⟩, ⟨#[102, 40, 105, 44, 105, 41, 105]⟩), (⟨#[99, 111, 95, 121, 105, 101, 108, 100]⟩, ⟨#[102, 40, 105, 41, 105]⟩), (⟨#[99, 111, 95, 100, 111, 110, 101]⟩, ⟨#[102, 40, 105, 41, 105]⟩), (⟨#[99, 111, 95, 102, 114, 101, 101]⟩, ⟨#[102, 40, 105, 41, 118]⟩)]
def entB (L : List (ByteArray × Bnd)) (n : ByteArray) : Option Bnd := (L.find? fun q => decide (q.1 = n)).map Prod.snd
/-- names that are built in, as they stand in a file's names -/
def bltE : List (ByteArray × Bnd) := (List.range 10).map fun i => ((builtL.getD i (⟨#[]⟩, ⟨#[]⟩)).1, ⟨4, (i : Int), (builtL.getD i (⟨#[]⟩, ⟨#[]⟩)).2⟩)
/-- a file's names, in order; a function for each of its names -/
structure FileN where
  ents : List (ByteArray × Bnd)
  funcs : List FnU
def FileN.look (s : FileN) (n : ByteArray) : Option Bnd := match entB s.ents n with
  | some b => some b
  | none => entB bltE n
def FileN.put (s : FileN) (n : ByteArray) (b : Bnd) : FileN := ⟨s.ents ++ [(n, b)], s.funcs⟩
def fnU0 : FnU := ⟨0, ⟨#[]⟩, ⟨#[]⟩, [], []⟩
def globsN : List GlU → Nat → FileN → (Int × Int) ⊕ FileN
  | [], _, s => .inr s
  | g :: r, i, s => match s.look g.var.name with
    | some _ => .inl (g.at_, 6)
    | none => globsN r (i + 1) (s.put g.var.name ⟨1, (i : Int), g.var.type⟩)
def oneF (s : FileN) (x : FnU) : Int ⊕ FileN := match s.look x.name with
  | some b =>
    if b.kind ≠ 2 then .inl 6
    else if x.body ≠ [] ∧ (s.funcs.getD b.idx.toNat fnU0).body ≠ [] then .inl 6
    else if (s.funcs.getD b.idx.toNat fnU0).type ≠ x.type then .inl 131
    else if x.body ≠ [] then .inr ⟨s.ents, s.funcs.set b.idx.toNat x⟩ else .inr s
  | none => if 128 ≤ s.funcs.length then .inl 3 else .inr ⟨s.ents ++ [(x.name, ⟨2, (s.funcs.length : Int), x.type⟩)], s.funcs ++ [x]⟩
def funcsN : List FnU → FileN → (Int × Int) ⊕ FileN
  | [], s => .inr s
  | x :: r, s => match oneF s x with
    | .inl c => .inl (x.at_, c)
    | .inr s' => funcsN r s'
def fileN (u : UnU) : (Int × Int) ⊕ FileN := if (unitE u).2 ≠ 0 then .inl (unitE u) else match globsN u.globals 0 ⟨[], []⟩ with
  | .inl f => .inl f
  | .inr s => funcsN u.funcs s
theorem entB_snoc (L : List (ByteArray × Bnd)) (n : ByteArray) (b : Bnd) (t : ByteArray) : entB (L ++ [(n, b)]) t = match entB L t with
    | some c => some c
    | none => if t = n then some b else none := by
  unfold entB
  rw [List.find?_append]
  rcases h : L.find? (fun q => decide (q.1 = t)) with _ | c
  · rw [h, Option.none_or, Option.map_none, List.find?_cons]
    by_cases e : t = n
    · subst e; simp
    · have e' : ¬ n = t := fun h => e h.symm
      simp [e, e']
  · rw [h, Option.some_or, Option.map_some]
theorem look_put {s : FileN} {n : ByteArray} (h : s.look n = none) (b : Bnd) (t : ByteArray) : (s.put n b).look t = if t = n then some b else s.look t := by
  unfold FileN.look FileN.put at *
  simp only
  rw [entB_snoc]
  rcases e : entB s.ents t with _ | c
  · simp only
    by_cases ht : t = n
    · rw [if_pos ht, if_pos ht]
    · rw [if_neg ht, if_neg ht]
  · simp only
    by_cases ht : t = n
    · subst ht
      rw [e] at h
      cases h
    · rw [if_neg ht]
/-- what is so of a file's names -/
structure FileOk (s : FileN) : Prop where
  kinds : ∀ n b, entB s.ents n = some b → (b.kind = 1 ∨ b.kind = 2) ∧ (b.kind = 2 → 0 ≤ b.idx ∧ b.idx.toNat < s.funcs.length ∧ (s.funcs.getD b.idx.toNat fnU0).name = n)
  has : ∀ i, i < s.funcs.length → entB s.ents (s.funcs.getD i fnU0).name = some ⟨2, (i : Int), (s.funcs.getD i fnU0).type⟩
theorem bltE_kind {n : ByteArray} {b : Bnd} (h : entB bltE n = some b) : b.kind = 4 := by
  unfold entB at h
  simp only [Option.map_eq_some_iff] at h
  obtain ⟨q, hq, rfl⟩ := h
  have := List.mem_of_find?_eq_some hq
  unfold bltE at this
  obtain ⟨i, _, rfl⟩ := List.mem_map.1 this
  rfl
theorem look_ent {s : FileN} {n : ByteArray} {b : Bnd} (h : entB s.ents n = some b) : s.look n = some b := by
  unfold FileN.look
  rw [h]
theorem look_none {s : FileN} {n : ByteArray} (h : s.look n = none) : entB s.ents n = none := by
  rcases e : entB s.ents n with _ | c
  · rfl
  · rw [look_ent e] at h; cases h
theorem FileOk.func {s : FileN} (h : FileOk s) {n : ByteArray} {b : Bnd} (hb : s.look n = some b) (hk : b.kind = 2) : 0 ≤ b.idx ∧ b.idx.toNat < s.funcs.length ∧ (s.funcs.getD b.idx.toNat fnU0).name = n := by
  unfold FileN.look at hb
  rcases e : entB s.ents n with _ | c
  · rw [e] at hb
    have := bltE_kind hb
    omega
  · rw [e] at hb
    obtain rfl := Option.some.inj hb
    exact (h.kinds n c e).2 hk
/-- functions have names of their own -/
theorem FileOk.uniq {s : FileN} (h : FileOk s) {i j : Nat} (hi : i < s.funcs.length) (hj : j < s.funcs.length) (e : (s.funcs.getD i fnU0).name = (s.funcs.getD j fnU0).name) : i = j := by
  have h1 := h.has i hi
  have h2 := h.has j hj
  rw [e, h2] at h1
  have h3 := congrArg Bnd.idx (Option.some.inj h1)
  simp only at h3
  omega
theorem fileOk_nil : FileOk ⟨[], []⟩ := ⟨(fun n b h => by cases h), (fun i h => by simp at h)⟩
theorem FileOk.glob {s : FileN} (h : FileOk s) {n : ByteArray} (_hn : s.look n = none) (i : Int) (t : ByteArray) : FileOk (s.put n ⟨1, i, t⟩) := ⟨fun m b hb => by
  unfold FileN.put at hb
  simp only at hb
  rw [entB_snoc] at hb
  rcases e : entB s.ents m with _ | c
  · rw [e] at hb
    simp only at hb
    split at hb
    · obtain rfl := Option.some.inj hb
      exact ⟨.inl rfl, fun h => by cases h⟩
    · cases hb
  · rw [e] at hb
    obtain rfl := Option.some.inj hb
    exact h.kinds m c e, fun j hj => by
  unfold FileN.put
  simp only
  rw [entB_snoc, h.has j hj]⟩
theorem FileOk.new {s : FileN} (h : FileOk s) {x : FnU} (hn : s.look x.name = none) : FileOk ⟨s.ents ++ [(x.name, ⟨2, (s.funcs.length : Int), x.type⟩)], s.funcs ++ [x]⟩ := ⟨fun m b hb => by
  simp only at hb ⊢
  rw [entB_snoc] at hb
  rcases e : entB s.ents m with _ | c
  · rw [e] at hb
    simp only at hb
    split at hb
    · rename_i hm
      obtain rfl := Option.some.inj hb
      refine ⟨.inr rfl, fun _ => ⟨by simp, by simp, ?_⟩⟩
      simp [hm]
    · cases hb
  · rw [e] at hb
    obtain rfl := Option.some.inj hb
    obtain ⟨h1, h2⟩ := h.kinds m c e
    refine ⟨h1, fun hk => ?_⟩
    obtain ⟨a1, a2, a3⟩ := h2 hk
    refine ⟨a1, by rw [List.length_append]; omega, ?_⟩
    rw [← a3, List.getD_eq_getElem?_getD, List.getD_eq_getElem?_getD, List.getElem?_append_left a2], fun j hj => by
  simp only at hj ⊢
  rw [List.length_append, List.length_cons, List.length_nil] at hj
  rw [entB_snoc]
  rcases Nat.lt_or_ge j s.funcs.length with h' | h'
  · have e : (s.funcs ++ [x]).getD j fnU0 = s.funcs.getD j fnU0 := by rw [List.getD_eq_getElem?_getD, List.getD_eq_getElem?_getD, List.getElem?_append_left h']
    rw [e, h.has j h']
  · obtain rfl : j = s.funcs.length := by omega
    have e : (s.funcs ++ [x]).getD s.funcs.length fnU0 = x := by simp
    rw [e, look_none hn]
    simp⟩
theorem FileOk.set {s : FileN} (h : FileOk s) {x : FnU} {i : Nat} (hx : (s.funcs.getD i fnU0).name = x.name) (ht : (s.funcs.getD i fnU0).type = x.type) : FileOk ⟨s.ents, s.funcs.set i x⟩ := by
  have key : ∀ j, j < s.funcs.length → ((s.funcs.set i x).getD j fnU0).name = (s.funcs.getD j fnU0).name ∧ ((s.funcs.set i x).getD j fnU0).type = (s.funcs.getD j fnU0).type := fun j hj => by
    by_cases e : i = j
    · subst e
      have e2 : (s.funcs.set i x).getD i fnU0 = x := by rw [List.getD_eq_getElem?_getD, List.getElem?_set_self hj]; rfl
      rw [e2]
      exact ⟨hx.symm, ht.symm⟩
    · rw [List.getD_eq_getElem?_getD, List.getElem?_set_ne e, ← List.getD_eq_getElem?_getD]
      exact ⟨rfl, rfl⟩
  refine ⟨fun m b hb => ?_, fun j hj => ?_⟩
  · obtain ⟨h1, h2⟩ := h.kinds m b hb
    refine ⟨h1, fun hk => ?_⟩
    obtain ⟨a1, a2, a3⟩ := h2 hk
    exact ⟨a1, by simpa using a2, by rw [← a3]; exact (key _ a2).1⟩
  · have hj' : j < s.funcs.length := by simpa using hj
    obtain ⟨k1, k2⟩ := key j hj'
    simp only
    rw [k1, k2]
    exact h.has j hj'
theorem oneF_ok {s s' : FileN} {x : FnU} (h : FileOk s) (e : oneF s x = .inr s') : FileOk s' ∧ ∀ y ∈ s'.funcs, y ∈ s.funcs ∨ y = x := by
  unfold oneF at e
  rcases hl : s.look x.name with _ | b
  · rw [hl] at e
    simp only at e
    split at e
    · cases e
    · obtain rfl := Sum.inr.inj e
      exact ⟨h.new hl, fun y hy => by simpa using hy⟩
  · rw [hl] at e
    simp only at e
    split at e
    · cases e
    rename_i hk
    have hk : b.kind = 2 := by simpa using hk
    split at e
    · cases e
    split at e
    · cases e
    rename_i ht
    have ht : (s.funcs.getD b.idx.toNat fnU0).type = x.type := by simpa using ht
    split at e
    · obtain rfl := Sum.inr.inj e
      exact ⟨h.set (h.func hl hk).2.2 ht, fun y hy => by rcases List.mem_or_eq_of_mem_set hy with h | h; exact .inl h; exact .inr h⟩
    · obtain rfl := Sum.inr.inj e
      exact ⟨h, fun y hy => .inl hy⟩
theorem funcsN_ok : ∀ {L : List FnU} {s s' : FileN}, FileOk s → funcsN L s = .inr s' → FileOk s' ∧ ∀ y ∈ s'.funcs, y ∈ s.funcs ∨ y ∈ L
  | [], s, s', h, e => by
    rw [funcsN] at e
    obtain rfl := Sum.inr.inj e
    exact ⟨h, fun y hy => .inl hy⟩
  | x :: r, s, s', h, e => by
    rw [funcsN] at e
    rcases hx : oneF s x with c | s1
    · rw [hx] at e; cases e
    · rw [hx] at e
      obtain ⟨h1, h2⟩ := oneF_ok h hx
      obtain ⟨h3, h4⟩ := funcsN_ok h1 e
      refine ⟨h3, fun y hy => ?_⟩
      rcases h4 y hy with hy | hy
      · rcases h2 y hy with hy | rfl
        · exact .inl hy
        · exact .inr List.mem_cons_self
      · exact .inr (List.mem_cons_of_mem _ hy)
theorem globsN_ok : ∀ {L : List GlU} {i : Nat} {s s' : FileN}, FileOk s → globsN L i s = .inr s' → FileOk s' ∧ s'.funcs = s.funcs
  | [], i, s, s', h, e => by
    rw [globsN] at e
    obtain rfl := Sum.inr.inj e
    exact ⟨h, rfl⟩
  | g :: r, i, s, s', h, e => by
    rw [globsN] at e
    rcases hl : s.look g.var.name with _ | b
    · rw [hl] at e
      obtain ⟨h1, h2⟩ := globsN_ok (h.glob hl _ _) e
      exact ⟨h1, h2⟩
    · rw [hl] at e; cases e
end Go.Proofs.YtbbaooeioogijaaDoor
