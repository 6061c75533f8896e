/- Words, numbers of types: the program. · Nodes in the world: a node by value, a list of nodes. · Rows of one's own, as lists of elements of k cells each. -/
import Derived.Test.YtlcfejgjeljjdaaDoorMg16
import Derived.Test.YtlcfejgjeljjdaaDoorMg13
import Derived.Test.YtlcfejgjeljjdaaDoorMg12
import Derived.SizedLaws
namespace Go.Proofs.YtlcfejgjeljjdaaDoor
open Go.RowKit

theorem wraps32 (n : Int) (h₀ : 0 ≤ n) (h₁ : n < 2 ^ 32) : IntKind.u32.wrap n = n := by rw [IntKind.wrap_u32]; omega
theorem mask31 {y : Int} (h : 0 ≤ y ∧ y < 4294967296) : bits .and .u32 y 31 = y % 32 := bits_mask .u32 32 (by decide) wraps32 5 (by decide) y h.1 h.2
theorem w32s (x : Int) : wrap32 x = sgnI 32 x := by unfold wrap32; rw [sgn32]
theorem sgn32_range (x : Int) : -2147483648 ≤ sgnI 32 x ∧ sgnI 32 x < 2147483648 := by rw [sgn32]; omega
theorem w64s (x : Int) : wrap64 (wrap32 x) = sgnI 32 x := by
  rw [w32s]
  have := sgn32_range x
  unfold wrap64
  omega
theorem ext8_is (x : Int) : wrap32 (x * 16777216 % 4294967296) / 16777216 % 4294967296 = sgnI 8 x % 4294967296 := by rw [w32s, sgn32, sgn8]; omega
theorem ext16_is (x : Int) : wrap32 (x * 65536 % 4294967296) / 65536 % 4294967296 = sgnI 16 x % 4294967296 := by rw [w32s, sgn32, sgn16]; omega
theorem ext32_is (x : Int) : wrap32 x % 4294967296 = sgnI 32 x % 4294967296 := by rw [w32s]
theorem retU {a b : Int} (h : a = b) : Ending.returned (.int .u32 a) = .returned (.int .u32 b) := by rw [h]
theorem retI {a b : Int} (h : a = b) : Ending.returned (.int .i64 a) = .returned (.int .i64 b) := by rw [h]
theorem mod_word {x : Int} (h : 0 ≤ x ∧ x < 4294967296) : x % 4294967296 = x := by omega
theorem mul_is (x y : Int) (h : 0 ≤ x ∧ x < 4294967296) (h2 : 0 ≤ y ∧ y < 4294967296) : IntKind.u64.wrap (x * y) % 4294967296 = mulW x y := by
  unfold mulW
  rw [mod_word h, mod_word h2, IntKind.wrap_u64]
  omega
theorem wof_ok (n : Int) (w : World) : Calls Tryd.prog 24 #[.int .i64 n] w fun e w' => e = .returned (.int .u32 (n % 4294967296)) ∧ w' = w := by
  go_enter Tryd.func24, Tryd.ntmps24
  go_wp2_with fail
  go_ret
  exact ⟨rfl, rfl⟩
theorem wsigned_ok (x : Int) (w : World) : Calls Tryd.prog 32 #[.int .u32 x] w fun e w' => e = .returned (.int .i64 (sgnI 32 x)) ∧ w' = w := by
  have hv := Lib.hid (w64s x)
  go_enter Tryd.func32, Tryd.ntmps32
  go_wp2_with fail
  go_ret
  exact ⟨retI hv.out, rfl⟩
theorem wext_ok (x b : Int) (w : World) (h : 0 ≤ x ∧ x < 4294967296) (hb : b = 8 ∨ b = 16 ∨ b = 32) : Calls Tryd.prog 31 #[.int .u32 x, .int .i64 b] w fun e w' => e = .returned (.tuple #[.int .u32 (sgnI b.toNat x % 4294967296), .int .i64 0]) ∧ w' = w := by
  have h8 := Lib.hid (ext8_is x)
  have h16 := Lib.hid (ext16_is x)
  have h32 := Lib.hid (ext32_is x)
  rcases hb with rfl | rfl | rfl
  · go_enter Tryd.func31, Tryd.ntmps31
    go_wp2_with fail
    go_ret2
    exact ⟨congrArg (fun v => Ending.returned (.tuple #[.int .u32 v, .int .i64 0])) h8.out, rfl⟩
  · go_enter Tryd.func31, Tryd.ntmps31
    go_wp2_with fail
    go_ret2
    exact ⟨congrArg (fun v => Ending.returned (.tuple #[.int .u32 v, .int .i64 0])) h16.out, rfl⟩
  · go_enter Tryd.func31, Tryd.ntmps31
    go_wp2_with fail
    go_ret2
    exact ⟨congrArg (fun v => Ending.returned (.tuple #[.int .u32 v, .int .i64 0])) h32.out, rfl⟩
theorem wmul_ok (x y : Int) (w : World) (h : 0 ≤ x ∧ x < 4294967296) (h2 : 0 ≤ y ∧ y < 4294967296) : Calls Tryd.prog 30 #[.int .u32 x, .int .u32 y] w fun e w' => (∃ hi, e = .returned (.tuple #[.int .u32 (mulW x y), .int .u32 hi])) ∧ w' = w := by
  have hv := Lib.hid (mul_is x y h h2)
  go_enter Tryd.func30, Tryd.ntmps30
  go_wp2_with fail
  go_ret2
  exact ⟨⟨_, congrArg (fun v => Ending.returned (.tuple #[.int .u32 v, .int .u32 _])) hv.out⟩, rfl⟩
theorem wshl_ok (x y : Int) (w : World) (h : 0 ≤ x ∧ x < 4294967296) (h2 : 0 ≤ y ∧ y < 4294967296) : Calls Tryd.prog 25 #[.int .u32 x, .int .u32 y] w fun e w' => e = .returned (.int .u32 (shlW x y)) ∧ w' = w := by
  have hb : bits .and .u32 y 31 = y % 32 := mask31 h2
  have h3 : 0 ≤ y % 32 ∧ y % 32 ≤ 32 := by omega
  have hv := Lib.hid (show x * 2 ^ (y % 32).toNat % 4294967296 = shlW x y by unfold shlW; rw [mod_word h, mod_word h2])
  go_enter Tryd.func25, Tryd.ntmps25
  go_wp2_with fail
  go_ret
  exact ⟨retU hv.out, rfl⟩
theorem wshr_ok (x y : Int) (w : World) (h2 : 0 ≤ y ∧ y < 4294967296) : Calls Tryd.prog 27 #[.int .u32 x, .int .u32 y] w fun e w' => e = .returned (.int .u32 (shrsW x y)) ∧ w' = w := by
  have hb : bits .and .u32 y 31 = y % 32 := mask31 h2
  have h3 : 0 ≤ y % 32 ∧ y % 32 ≤ 32 := by omega
  have hv := Lib.hid (show wrap32 x / 2 ^ (y % 32).toNat % 4294967296 = shrsW x y by unfold shrsW; rw [w32s, mod_word h2])
  go_enter Tryd.func27, Tryd.ntmps27
  go_wp2_with fail
  go_ret
  exact ⟨retU hv.out, rfl⟩
theorem wshru_ok (x y : Int) (w : World) (h : 0 ≤ x ∧ x < 4294967296) (h2 : 0 ≤ y ∧ y < 4294967296) : Calls Tryd.prog 26 #[.int .u32 x, .int .u32 y] w fun e w' => e = .returned (.int .u32 (shruW x y)) ∧ w' = w := by
  have hb : bits .and .u32 y 31 = y % 32 := mask31 h2
  have h3 : 0 ≤ y % 32 ∧ y % 32 ≤ 32 := by omega
  have hv := Lib.hid (show x / 2 ^ (y % 32).toNat = shruW x y by unfold shruW; rw [mod_word h, mod_word h2])
  go_enter Tryd.func26, Tryd.ntmps26
  go_wp2_with fail
  go_ret
  exact ⟨retU hv.out, rfl⟩
/-- through a word and back -/
theorem asI_through {n : Int} {b : Nat} (hb : b = 8 ∨ b = 16 ∨ b = 32) : sgnI 32 (sgnI b (n % 4294967296) % 4294967296) = sgnI b n := by
  rcases hb with rfl | rfl | rfl
  · rw [sgn32, sgn8, sgn8]; omega
  · rw [sgn32, sgn16, sgn16]; omega
  · rw [sgn32, sgn32, sgn32]; omega
theorem as_ok (n : Int) (t : ByteArray) (w : World) : Calls Tryd.prog 17 #[.int .i64 n, .string t] w fun e w' => e = .returned (.int .i64 (asI n t)) ∧ w' = w := by
  have hm : 0 ≤ n % 4294967296 ∧ n % 4294967296 < 4294967296 := by omega
  have H1 := Lib.hid (wof_ok n w)
  by_cases hu : t = uText12
  · have t1 : (t.toList == [117]) = true := by rw [str_one]; exact decide_eq_true hu
    have hv := Lib.hid (show n % 4294967296 = asI n t by unfold asI; rw [if_pos hu])
    clear hu
    go_enter Tryd.func17, Tryd.ntmps17
    go_wp2_with (go_at_call 24; (with_reducible refine H1.out.mono ?_); rintro e w1 ⟨rfl, rfl⟩)
    go_ret
    exact ⟨retI hv.out, rfl⟩
  have t1 : (t.toList == [117]) = false := by rw [str_one]; exact decide_eq_false hu
  by_cases hc : t = cText12
  · have t2 : (t.toList == [99]) = true := by rw [str_one]; exact decide_eq_true hc
    have hv := Lib.hid (show sgnI 32 (sgnI 8 (n % 4294967296) % 4294967296) = asI n t by rw [asI_through (.inl rfl)]; unfold asI; rw [if_neg hu, if_pos hc])
    have H2 := Lib.hid (wext_ok (n % 4294967296) 8 w hm (.inl rfl))
    have H3 := Lib.hid (wsigned_ok (sgnI 8 (n % 4294967296) % 4294967296) w)
    clear hu hc
    go_enter Tryd.func17, Tryd.ntmps17
    go_wp2_with (first | (go_at_call 24; (with_reducible refine H1.out.mono ?_); rintro e w1 ⟨rfl, rfl⟩) | (go_at_call 31; (with_reducible refine H2.out.mono ?_); rintro e w1 ⟨rfl, rfl⟩) | (go_at_call 32; (with_reducible refine H3.out.mono ?_); rintro e w1 ⟨rfl, rfl⟩))
    go_ret
    exact ⟨retI hv.out, rfl⟩
  have t2 : (t.toList == [99]) = false := by rw [str_one]; exact decide_eq_false hc
  by_cases hs : t = sText12
  · have t3 : (t.toList == [115]) = true := by rw [str_one]; exact decide_eq_true hs
    have hv := Lib.hid (show sgnI 32 (sgnI 16 (n % 4294967296) % 4294967296) = asI n t by rw [asI_through (.inr (.inl rfl))]; unfold asI; rw [if_neg hu, if_neg hc, if_pos hs])
    have H2 := Lib.hid (wext_ok (n % 4294967296) 16 w hm (.inr (.inl rfl)))
    have H3 := Lib.hid (wsigned_ok (sgnI 16 (n % 4294967296) % 4294967296) w)
    clear hu hc hs
    go_enter Tryd.func17, Tryd.ntmps17
    go_wp2_with (first | (go_at_call 24; (with_reducible refine H1.out.mono ?_); rintro e w1 ⟨rfl, rfl⟩) | (go_at_call 31; (with_reducible refine H2.out.mono ?_); rintro e w1 ⟨rfl, rfl⟩) | (go_at_call 32; (with_reducible refine H3.out.mono ?_); rintro e w1 ⟨rfl, rfl⟩))
    go_ret
    exact ⟨retI hv.out, rfl⟩
  have t3 : (t.toList == [115]) = false := by rw [str_one]; exact decide_eq_false hs
  have hv := Lib.hid (show sgnI 32 (sgnI 32 (n % 4294967296) % 4294967296) = asI n t by rw [asI_through (.inr (.inr rfl))]; unfold asI; rw [if_neg hu, if_neg hc, if_neg hs])
  have H2 := Lib.hid (wext_ok (n % 4294967296) 32 w hm (.inr (.inr rfl)))
  have H3 := Lib.hid (wsigned_ok (sgnI 32 (n % 4294967296) % 4294967296) w)
  clear hu hc hs
  go_enter Tryd.func17, Tryd.ntmps17
  go_wp2_with (first | (go_at_call 24; (with_reducible refine H1.out.mono ?_); rintro e w1 ⟨rfl, rfl⟩) | (go_at_call 31; (with_reducible refine H2.out.mono ?_); rintro e w1 ⟨rfl, rfl⟩) | (go_at_call 32; (with_reducible refine H3.out.mono ?_); rintro e w1 ⟨rfl, rfl⟩))
  go_ret
  exact ⟨retI hv.out, rfl⟩
end Go.Proofs.YtlcfejgjeljjdaaDoor
namespace Go.Proofs.YtlcfejgjeljjdaaDoor
open Go.ChangeShapes Go.WideShapes Go.ChangeAt Go.RowKit Go.Deep

def ndCells (x : Nd) : List Value := [.int .i64 x.kind, .int .i64 x.n, .int .i64 x.at_, .int .i64 x.int, .string x.text, .string x.type]
def ndV (x : Nd) : Value := .agg #[.int .i64 x.kind, .int .i64 x.n, .int .i64 x.at_, .int .i64 x.int, .string x.text, .string x.type]
/-- a node in a block of its own -/
abbrev ndObj (x : Nd) : Obj := .cells #[.int .i64 x.kind, .int .i64 x.n, .int .i64 x.at_, .int .i64 x.int, .string x.text, .string x.type] 43
theorem six_block {w : World} {b : Nat} {a0 a1 a2 a3 a4 a5 : Value} {T : TypeId} (h : w.heap[b]? = some (.cells #[a0, a1, a2, a3, a4, a5] T (0, 0))) :
    (w.cell? ⟨b, 0, none⟩ = some a0 ∧ w.cell? ⟨b, 1, none⟩ = some a1 ∧ w.cell? ⟨b, 2, none⟩ = some a2 ∧ w.cell? ⟨b, 3, none⟩ = some a3 ∧ w.cell? ⟨b, 4, none⟩ = some a4 ∧ w.cell? ⟨b, 5, none⟩ = some a5) ∧ ∀ j, w.frozen? ⟨b, j, none⟩ = false := by
  refine ⟨⟨?_, ?_, ?_, ?_, ?_, ?_⟩, fun j => ?_⟩ <;> simp [World.cell?, World.frozen?, h]
/-- nodes, each of six cells -/
abbrev IsNds (B : Nat) (w : World) (a : Option Addr) (t : List Nd) : Prop := IsSl 6 ndCells B w a t
theorem nds_at {B : Nat} {w : World} {a : Option Addr} {t : List Nd} (h : IsNds B w a t) {i : Nat} (hi : i < t.length) : ∃ b off, a = some ⟨b, off, none⟩ ∧ b < B ∧
    w.cell? ⟨b, off + i * 6, none⟩ = some (.int .i64 t[i].kind) ∧ w.cell? ⟨b, off + i * 6 + 1, none⟩ = some (.int .i64 t[i].n) ∧ w.cell? ⟨b, off + i * 6 + 2, none⟩ = some (.int .i64 t[i].at_) ∧ w.cell? ⟨b, off + i * 6 + 3, none⟩ = some (.int .i64 t[i].int) ∧ w.cell? ⟨b, off + i * 6 + 4, none⟩ = some (.string t[i].text) ∧ w.cell? ⟨b, off + i * 6 + 5, none⟩ = some (.string t[i].type) := by
  obtain ⟨b, off, e, hlt, hc⟩ := h (fun e => by rw [e] at hi; simp at hi)
  have hx := List.getElem?_eq_getElem hi
  exact ⟨b, off, e, hlt, hc i _ hx 0 _ rfl, hc i _ hx 1 _ rfl, hc i _ hx 2 _ rfl, hc i _ hx 3 _ rfl, hc i _ hx 4 _ rfl, hc i _ hx 5 _ rfl⟩

section
variable {H : Type} {enc : TypeId × Value → H} {w : World} {base : Nat} {spare : Nat → Bool} {held : Bool}
def ndData (x : Nd) : DataW H := .agg [.lit (.int .i64 x.kind), .lit (.int .i64 x.n), .lit (.int .i64 x.at_), .lit (.int .i64 x.int), .lit (.string x.text.data.toList), .lit (.string x.type.data.toList)]
theorem cellsNd : Tryd.prog.cellsOf 43 = 6 := by kernel_rfl
theorem cellsI9 : Tryd.prog.cellsOf 3 = 1 := by kernel_rfl
theorem cellsS9 : Tryd.prog.cellsOf 9 = 1 := by kernel_rfl
theorem cellsT9 : Tryd.prog.cellsOf 22 = 1 := by kernel_rfl
def i64In (n : Int) : Prop := -9223372036854775808 ≤ n ∧ n ≤ 9223372036854775807
def NdOk (x : Nd) : Prop := i64In x.kind ∧ i64In x.n ∧ i64In x.at_ ∧ i64In x.int
set_option maxRecDepth 100000 in
theorem open_nd {n : Nat} {cs : List Value} {D : DataW H} {pl : List MemPlace} (h : DataW.trod enc Tryd.prog w base spare held n 43 cs = some (D, pl)) :
    ∃ x : Nd, cs = ndCells x ∧ D = ndData x ∧ NdOk x := by
  obtain ⟨xs, n', _, hx, hlen, hxs, hf⟩ := DataW.trod_struct Tryd.underlying43 h
  rw [cellsNd] at hlen
  match cs, hlen with
  | [c0, c1, c2, c3, c4, c5], _ =>
    match xs, hxs with
    | [y0, y1, y2, y3, y4, y5], _ =>
      have f0 := hf 0 _ rfl
      have f1 := hf 1 _ rfl
      have f2 := hf 2 _ rfl
      have f3 := hf 3 _ rfl
      have f4 := hf 4 _ rfl
      have f5 := hf 5 _ rfl
      simp [cellsI9] at f0 f1 f2 f3
      simp [cellsS9] at f4
      simp [cellsT9] at f5
      obtain ⟨a0, e0, r0, w0⟩ := DataW.trod_int Tryd.underlying3 f0
      obtain ⟨a1, e1, r1, w1⟩ := DataW.trod_int Tryd.underlying3 f1
      obtain ⟨a2, e2, r2, w2⟩ := DataW.trod_int Tryd.underlying3 f2
      obtain ⟨a3, e3, r3, w3⟩ := DataW.trod_int Tryd.underlying3 f3
      obtain ⟨a4, e4, r4, _⟩ := DataW.trod_string Tryd.underlying9 f4
      obtain ⟨a5, e5, r5, _⟩ := DataW.trod_string Tryd.underlying22 f5
      simp only [List.cons.injEq, and_true] at e0 e1 e2 e3 e4 e5
      subst e0 e1 e2 e3 e4 e5 r0 r1 r2 r3 r4 r5
      exact ⟨⟨a0, a1, a2, a3, a4, a5⟩, rfl, congrArg Prod.fst hx, bounds_i64 w0, bounds_i64 w1, bounds_i64 w2, bounds_i64 w3⟩
/-- the whole argument -/
theorem open_tree {fuel : Nat} {v : Value} {x : DataW H × List MemPlace} (h : DataW.trod enc Tryd.prog w base spare held fuel 34 [v] = some x) :
    ∃ (a : Option Addr) (cap : Nat) (Q : List Nd), v = .slice a Q.length cap ∧ Q.length ≤ cap ∧ cap ≤ maxLen ∧ (a = none → Q = [] ∧ cap = 0) ∧ ((x.1 = .nil ∧ Q = []) ∨ ∃ rest, x.1 = .slice (Q.map ndData) rest) ∧ IsNds w.heap.size w a Q ∧ ∀ q ∈ Q, NdOk q :=
  open_list (by decide) Tryd.underlying34 cellsNd ndCells ndData NdOk (fun h => open_nd h) h
theorem tree_sized {ts : List TypeId} {ds : List (DataW H)} (hw : (DataW.weightsEach Tryd.prog ts ds).all (· ≤ reachBytes) = true) {j : Nat} {D : DataW H} {Q : List Nd} (ht : ts[j]? = some 34) (hD : ds[j]? = some D) (hd : (D = .nil ∧ Q = []) ∨ ∃ rest, D = .slice (Q.map ndData) rest) (_hok : ∀ q ∈ Q, NdOk q) : Q.length * 64 ≤ 140737488351232 := by
  rcases hd with ⟨_, rfl⟩ | ⟨rest, rfl⟩
  · simp
  have hr : reachBytes = 140737488351232 := rfl
  have := sized_slice hw ht hD Tryd.underlying34
  rw [show Tryd.prog.bytesOf 43 = 64 by kernel_rfl, List.length_map, hr] at this
  omega
end
end Go.Proofs.YtlcfejgjeljjdaaDoor
namespace Go.Proofs.YtlcfejgjeljjdaaDoor
open Go.RowKit

theorem flat_len {α : Type} {k : Nat} {cells : α → List Value} (hk : ∀ a, (cells a).length = k) : ∀ L : List α, (L.flatMap cells).length = L.length * k
  | [] => by simp
  | a :: L => by rw [List.flatMap_cons, List.length_append, hk, flat_len hk L, List.length_cons, Nat.add_mul]; omega
theorem flat_at {α : Type} {k : Nat} {cells : α → List Value} (hk : ∀ a, (cells a).length = k) : ∀ {L : List α} {i j : Nat} {a : α} {u : Value}, L[i]? = some a → (cells a)[j]? = some u → (L.flatMap cells)[i * k + j]? = some u
  | [], _, _, _, _, h, _ => by simp at h
  | b :: L, 0, j, a, u, h, hu => by
    obtain rfl := Option.some.inj h
    have hj := (List.getElem?_eq_some_iff.1 hu).1
    rw [List.flatMap_cons, Nat.zero_mul, Nat.zero_add, List.getElem?_append_left hj]
    exact hu
  | b :: L, i + 1, j, a, u, h, hu => by
    rw [List.flatMap_cons, List.getElem?_append_right (by rw [hk, Nat.add_mul]; omega), hk, show (i + 1) * k + j - k = i * k + j by rw [Nat.add_mul]; omega]
    exact flat_at hk (by simpa using h) hu
theorem flat_inv {α : Type} {k : Nat} {cells : α → List Value} (hk : ∀ a, (cells a).length = k) : ∀ {L : List α} {q : Nat} {u : Value}, (L.flatMap cells)[q]? = some u → ∃ (i j : Nat) (a : α), q = i * k + j ∧ L[i]? = some a ∧ (cells a)[j]? = some u
  | [], _, _, h => by simp at h
  | b :: L, q, u, h => by
    rw [List.flatMap_cons] at h
    rcases Nat.lt_or_ge q (cells b).length with hlt | hge
    · rw [List.getElem?_append_left hlt] at h
      exact ⟨0, q, b, by omega, rfl, h⟩
    · rw [List.getElem?_append_right hge, hk] at h
      obtain ⟨i, j, a, e, h1, h2⟩ := flat_inv hk h
      rw [hk] at hge
      exact ⟨i + 1, j, a, by rw [Nat.add_mul]; omega, by simpa using h1, h2⟩
theorem addN (b off j : Nat) : (⟨b, off, none⟩ : Addr).add j = ⟨b, off + j, none⟩ := by unfold Addr.add; split <;> simp_all
/-- what is appended out of a slice -/
theorem sl_news {α : Type} {k : Nat} {cells : α → List Value} (hk : ∀ a, (cells a).length = k) {B : Nat} {w : World} {ad : Addr} {L : List α} (h : IsSl k cells B w (some ad) L) : ∀ (q : Nat) u, (L.flatMap cells)[q]? = some u → w.cell? (ad.add q) = some u := fun q u hu => by
  obtain ⟨i, j, a, rfl, ha, hj⟩ := flat_inv hk hu
  obtain ⟨b, off, e, _, hc⟩ := h (fun e => by rw [e] at ha; simp at ha)
  obtain rfl := Option.some.inj e
  rw [addN, ← Nat.add_assoc]
  exact hc i a ha j u hj
/-- a row of one's own is a slice -/
theorem own_sl {α : Type} {k : Nat} {cells : α → List Value} (hk : ∀ a, (cells a).length = k) {w : World} {base n : Nat} {T : TypeId} {v : Value} {L : List α} (h : w.ownsRow base T k v n (L.flatMap cells)) (hn : n = L.length) : ∃ a cap, v = .slice a L.length cap ∧ IsSl k cells w.heap.size w a L ∧ (a = none → L = [] ∧ cap = 0) := by
  subst hn
  rcases h.2 with ⟨rfl, h0⟩ | ⟨g, cap, cur, rfl, _, hg, _⟩
  · have : L = [] := List.eq_nil_of_length_eq_zero h0
    subst this
    exact ⟨none, 0, rfl, isSl_nil, fun _ => ⟨rfl, rfl⟩⟩
  · refine ⟨_, cap, rfl, fun _ => ⟨g, 0, rfl, lt_of_heap hg, fun i a ha j u hu => ?_⟩, fun h => by cases h⟩
    have := h.cells (g := g) rfl _ _ (flat_at hk ha hu)
    rw [addN, ← Nat.add_assoc] at this
    exact this
/-- the first so many of a row -/
theorem own_take {w : World} {base n g cap size : Nat} {T : TypeId} {xs : List Value} (h : w.ownsRow base T size (.slice (some ⟨g, 0, none⟩) n cap) n xs) {m : Nat} (hm : m ≤ n) : w.ownsRow base T size (.slice (some ⟨g, 0, none⟩) m cap) m (xs.take (m * size)) := by
  obtain ⟨h1, h2 | ⟨g', cap', cur, e, hb, hg, hnc, hcm, hcs, ht⟩⟩ := h
  · simp at h2
  · simp only [Value.slice.injEq, Option.some.injEq, Addr.mk.injEq, and_true, true_and] at e
    obtain ⟨rfl, rfl⟩ := e
    have hle : m * size ≤ n * size := Nat.mul_le_mul_right size hm
    refine ⟨by rw [List.length_take]; omega, .inr ⟨g, cap, cur, rfl, hb, hg, by omega, hcm, hcs, ?_⟩⟩
    rw [← ht, List.take_take, Nat.min_eq_left hle]
end Go.Proofs.YtlcfejgjeljjdaaDoor
