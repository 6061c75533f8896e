/- Nodes in the world: a node by value, a list of nodes. -/
import Derived.Test.YtkokdafkjjcgoaaGreatDoorTree
import Derived.Test.YtkokdafkjjcgoaaGreatDoorOpenL
import Derived.SizedLaws
namespace Go.Proofs.YtkokdafkjjcgoaaGreatDoor
open Go.ChangeShapes Go.WideShapes Go.ChangeAt Go.RowKit Go.Deep

def ndCells (x : Nd) : List Value := [.int .i64 x.kind, .int .i64 x.n, .int .i64 x.at_, .int .i64 x.int, .string x.text, .string x.type]
def ndV (x : Nd) : Value := .agg #[.int .i64 x.kind, .int .i64 x.n, .int .i64 x.at_, .int .i64 x.int, .string x.text, .string x.type]
/-- a node in a block of its own -/
abbrev ndObj (x : Nd) : Obj := .cells #[.int .i64 x.kind, .int .i64 x.n, .int .i64 x.at_, .int .i64 x.int, .string x.text, .string x.type] 36
theorem six_block {w : World} {b : Nat} {a0 a1 a2 a3 a4 a5 : Value} {T : TypeId} (h : w.heap[b]? = some (.cells #[a0, a1, a2, a3, a4, a5] T (0, 0))) :
    (w.cell? ⟨b, 0, none⟩ = some a0 ∧ w.cell? ⟨b, 1, none⟩ = some a1 ∧ w.cell? ⟨b, 2, none⟩ = some a2 ∧ w.cell? ⟨b, 3, none⟩ = some a3 ∧ w.cell? ⟨b, 4, none⟩ = some a4 ∧ w.cell? ⟨b, 5, none⟩ = some a5) ∧ ∀ j, w.frozen? ⟨b, j, none⟩ = false := by
  refine ⟨⟨?_, ?_, ?_, ?_, ?_, ?_⟩, fun j => ?_⟩ <;> simp [World.cell?, World.frozen?, h]
/-- nodes, each of six cells -/
abbrev IsNds (B : Nat) (w : World) (a : Option Addr) (t : List Nd) : Prop := IsSl 6 ndCells B w a t
theorem nds_at {B : Nat} {w : World} {a : Option Addr} {t : List Nd} (h : IsNds B w a t) {i : Nat} (hi : i < t.length) : ∃ b off, a = some ⟨b, off, none⟩ ∧ b < B ∧
    w.cell? ⟨b, off + i * 6, none⟩ = some (.int .i64 t[i].kind) ∧ w.cell? ⟨b, off + i * 6 + 1, none⟩ = some (.int .i64 t[i].n) ∧ w.cell? ⟨b, off + i * 6 + 2, none⟩ = some (.int .i64 t[i].at_) ∧ w.cell? ⟨b, off + i * 6 + 3, none⟩ = some (.int .i64 t[i].int) ∧ w.cell? ⟨b, off + i * 6 + 4, none⟩ = some (.string t[i].text) ∧ w.cell? ⟨b, off + i * 6 + 5, none⟩ = some (.string t[i].type) := by
  obtain ⟨b, off, e, hlt, hc⟩ := h (fun e => by rw [e] at hi; simp at hi)
  have hx := List.getElem?_eq_getElem hi
  exact ⟨b, off, e, hlt, hc i _ hx 0 _ rfl, hc i _ hx 1 _ rfl, hc i _ hx 2 _ rfl, hc i _ hx 3 _ rfl, hc i _ hx 4 _ rfl, hc i _ hx 5 _ rfl⟩

section
variable {H : Type} {enc : TypeId × Value → H} {w : World} {base : Nat} {spare : Nat → Bool} {held : Bool}
def ndData (x : Nd) : DataW H := .agg [.lit (.int .i64 x.kind), .lit (.int .i64 x.n), .lit (.int .i64 x.at_), .lit (.int .i64 x.int), .lit (.string x.text.data.toList), .lit (.string x.type.data.toList)]
theorem cellsNd : Tryz.prog.cellsOf 36 = 6 := by kernel_rfl
theorem cellsI9 : Tryz.prog.cellsOf 3 = 1 := by kernel_rfl
theorem cellsS9 : Tryz.prog.cellsOf 9 = 1 := by kernel_rfl
theorem cellsT9 : Tryz.prog.cellsOf 34 = 1 := by kernel_rfl
def i64In (n : Int) : Prop := -9223372036854775808 ≤ n ∧ n ≤ 9223372036854775807
def NdOk (x : Nd) : Prop := i64In x.kind ∧ i64In x.n ∧ i64In x.at_ ∧ i64In x.int
set_option maxRecDepth 100000 in
theorem open_nd {n : Nat} {cs : List Value} {D : DataW H} {pl : List MemPlace} (h : DataW.trod enc Tryz.prog w base spare held n 36 cs = some (D, pl)) :
    ∃ x : Nd, cs = ndCells x ∧ D = ndData x ∧ NdOk x := by
  obtain ⟨xs, n', _, hx, hlen, hxs, hf⟩ := DataW.trod_struct Tryz.underlying36 h
  rw [cellsNd] at hlen
  match cs, hlen with
  | [c0, c1, c2, c3, c4, c5], _ =>
    match xs, hxs with
    | [y0, y1, y2, y3, y4, y5], _ =>
      have f0 := hf 0 _ rfl
      have f1 := hf 1 _ rfl
      have f2 := hf 2 _ rfl
      have f3 := hf 3 _ rfl
      have f4 := hf 4 _ rfl
      have f5 := hf 5 _ rfl
      simp [cellsI9] at f0 f1 f2 f3
      simp [cellsS9] at f4
      simp [cellsT9] at f5
      obtain ⟨a0, e0, r0, w0⟩ := DataW.trod_int Tryz.underlying3 f0
      obtain ⟨a1, e1, r1, w1⟩ := DataW.trod_int Tryz.underlying3 f1
      obtain ⟨a2, e2, r2, w2⟩ := DataW.trod_int Tryz.underlying3 f2
      obtain ⟨a3, e3, r3, w3⟩ := DataW.trod_int Tryz.underlying3 f3
      obtain ⟨a4, e4, r4, _⟩ := DataW.trod_string Tryz.underlying9 f4
      obtain ⟨a5, e5, r5, _⟩ := DataW.trod_string Tryz.underlying34 f5
      simp only [List.cons.injEq, and_true] at e0 e1 e2 e3 e4 e5
      subst e0 e1 e2 e3 e4 e5 r0 r1 r2 r3 r4 r5
      exact ⟨⟨a0, a1, a2, a3, a4, a5⟩, rfl, congrArg Prod.fst hx, bounds_i64 w0, bounds_i64 w1, bounds_i64 w2, bounds_i64 w3⟩
/-- the whole argument -/
theorem open_tree {fuel : Nat} {v : Value} {x : DataW H × List MemPlace} (h : DataW.trod enc Tryz.prog w base spare held fuel 23 [v] = some x) :
    ∃ (a : Option Addr) (cap : Nat) (Q : List Nd), v = .slice a Q.length cap ∧ Q.length ≤ cap ∧ cap ≤ maxLen ∧ (a = none → Q = [] ∧ cap = 0) ∧ ((x.1 = .nil ∧ Q = []) ∨ ∃ rest, x.1 = .slice (Q.map ndData) rest) ∧ IsNds w.heap.size w a Q ∧ ∀ q ∈ Q, NdOk q :=
  open_list (by decide) Tryz.underlying23 cellsNd ndCells ndData NdOk (fun h => open_nd h) h
theorem tree_sized {ts : List TypeId} {ds : List (DataW H)} (hw : (DataW.weightsEach Tryz.prog ts ds).all (· ≤ reachBytes) = true) {j : Nat} {D : DataW H} {Q : List Nd} (ht : ts[j]? = some 23) (hD : ds[j]? = some D) (hd : (D = .nil ∧ Q = []) ∨ ∃ rest, D = .slice (Q.map ndData) rest) (_hok : ∀ q ∈ Q, NdOk q) : Q.length * 64 ≤ 140737488351232 := by
  rcases hd with ⟨_, rfl⟩ | ⟨rest, rfl⟩
  · simp
  have hr : reachBytes = 140737488351232 := rfl
  have := sized_slice hw ht hD Tryz.underlying23
  rw [show Tryz.prog.bytesOf 36 = 64 by kernel_rfl, List.length_map, hr] at this
  omega
end
end Go.Proofs.YtkokdafkjjcgoaaGreatDoor

