/- Lists of structs, and of members, as rows that a call made itself; an append as one step of a region that draws. · Structs of one's own: lent. · An argument that is a slice, opened by its elements. · An argument that is a list of structs, opened. · The same structs: kept. -/
import Derived.Test.YtmmjmppfmjejkaaGreatDoorRefW
import Derived.Deep.AppendLies
import Derived.Deep.RegionHeld3
import Derived.Laws.AppendOwnNone
import Derived.Test.YtmmjmppfmjejkaaGreatDoorChecked
import Derived.Test.YtmmjmppfmjejkaaGreatDoorBase
import Derived.Deep.Slices
import Derived.ProofKit
import Derived.OpenShut
import Derived.Test.YtmmjmppfmjejkaaGreatDoorLearn
import Derived.SizedLaws
namespace Go
theorem step_append_own {P : Program} {w : World} {ops : Array Oper} {o : Oper} {a : Act} {K : Act → World → Prop} {Q : Exit → Act → World → Prop} {E : Prop} (hgd : o.guard = none) (s x : Operand) (t : TypeId)
    (ho : o.op = .call { callee := .builtin .append, args := #[s, x], argTypes := #[t, t] })
    (base : Nat) (e : TypeId) (i : TypeInfo) (z : Value) (size bytes : Nat) (ht : P.underlying t = some (.slice e)) (hi : P.info? e = some i) (hz : i.zero = some z)
    (hsize : i.size = size) (hby : i.bytes = bytes) (hzs : z.cells.size = size) (hsz : 0 < size)
    (v : Value) (n : Nat) (xs : List Value) (hs : a.eval s = v) (hown : w.ownsRow base e size v n xs)
    (ad : Addr) (m c : Nat) (news : List Value) (hx : a.eval x = .slice (some ad) m c) (hl : news.length = m * size) (hnews : ∀ j u, news[j]? = some u → w.cell? (ad.add j) = some u) (h1 : ∀ u ∈ news, u.oneCell' = true)
    (h63 : n + m ≤ maxLen) (hbytes : (n + m) * bytes ≤ 140737488355328) (hbase : base ≤ w.heap.size)
    (h : ∀ v' w', w'.ownsRow base e size v' (n + m) (xs ++ news) → w.grownBy w' v.ownBlock → (v' = .slice none 0 0 ↔ v = .slice none 0 0 ∧ m = 0) → K (a.put o.dst v') w') :
    if Region.wanted o (yielded ops a.tmps) = true then Oper.wp P o a w K Q else E := by
  have hw : Region.wanted o (yielded ops a.tmps) = true := by simp [Region.wanted, hgd]
  rw [if_pos hw]
  exact wp_append_own w s x t ho base e i z size bytes ht hi hz hsize hby hzs hsz v n xs hs hown ad m c news hx hl hnews h1 h63 hbytes hbase h
end Go
namespace Go.Proofs.YtmmjmppfmjejkaaGreatDoor
open Go.RowKit

/-- pairs of cells, one behind the other -/
def flat2 : List (Value × Value) → List Value
  | [] => []
  | q :: l => q.1 :: q.2 :: flat2 l
theorem flat2_length : ∀ l, (flat2 l).length = l.length * 2
  | [] => rfl
  | q :: l => by rw [flat2]; simp [flat2_length l]; omega
theorem flat2_append : ∀ l m, flat2 (l ++ m) = flat2 l ++ flat2 m
  | [], m => rfl
  | q :: l, m => by rw [List.cons_append, flat2, flat2, flat2_append l m]; rfl
theorem flat2_at : ∀ {l : List (Value × Value)} {i : Nat} {q : Value × Value}, l[i]? = some q → (flat2 l)[i * 2]? = some q.1 ∧ (flat2 l)[i * 2 + 1]? = some q.2
  | [], _, _, h => by simp at h
  | p :: l, 0, q, h => by
    simp at h; subst h; exact ⟨rfl, rfl⟩
  | p :: l, i + 1, q, h => by
    obtain ⟨h1, h2⟩ := flat2_at (l := l) (i := i) (q := q) (by simpa using h)
    rw [flat2]
    have e1 : (i + 1) * 2 = i * 2 + 1 + 1 := by omega
    rw [e1]
    exact ⟨by simpa using h1, by simpa using h2⟩
theorem flat2_inv : ∀ {l : List (Value × Value)} {j : Nat} {u : Value}, (flat2 l)[j]? = some u → ∃ (i : Nat) (q : Value × Value), l[i]? = some q ∧ ((j = i * 2 ∧ u = q.1) ∨ (j = i * 2 + 1 ∧ u = q.2))
  | [], _, _, h => by simp [flat2] at h
  | p :: l, 0, u, h => ⟨0, p, rfl, .inl ⟨rfl, by rw [flat2] at h; simpa using h.symm⟩⟩
  | p :: l, 1, u, h => ⟨0, p, rfl, .inr ⟨rfl, by rw [flat2] at h; simpa using h.symm⟩⟩
  | p :: l, j + 2, u, h => by
    rw [flat2] at h
    obtain ⟨i, q, h1, h2⟩ := flat2_inv (l := l) (j := j) (u := u) (by simpa using h)
    exact ⟨i + 1, q, by simpa using h1, by rcases h2 with ⟨h2, h3⟩ | ⟨h2, h3⟩; exact .inl ⟨by omega, h3⟩; exact .inr ⟨by omega, h3⟩⟩
/-- structs' cells -/
def pairS (L : List Sr) (mv : List Value) : List (Value × Value) := (L.zip mv).map fun q => (.string q.1.name, q.2)
def pairM (ms : List (ByteArray × ByteArray)) : List (Value × Value) := ms.map fun m => (.string m.1, .string m.2)
theorem pairS_length {L : List Sr} {mv : List Value} (h : mv.length = L.length) : (pairS L mv).length = L.length := by simp [pairS, h]
theorem pairS_at {L : List Sr} {mv : List Value} {i : Nat} {x : Sr} {v : Value} (h1 : L[i]? = some x) (h2 : mv[i]? = some v) : (pairS L mv)[i]? = some (.string x.name, v) := by
  rw [pairS, List.getElem?_map, show (L.zip mv)[i]? = some (x, v) from List.getElem?_zip_eq_some.2 ⟨h1, h2⟩]; rfl
theorem pairS_inv {L : List Sr} {mv : List Value} {i : Nat} {q : Value × Value} (h : (pairS L mv)[i]? = some q) : ∃ x v, L[i]? = some x ∧ mv[i]? = some v ∧ q = (.string x.name, v) := by
  rw [pairS, List.getElem?_map, Option.map_eq_some_iff] at h
  obtain ⟨⟨x, v⟩, h1, rfl⟩ := h
  obtain ⟨h2, h3⟩ := List.getElem?_zip_eq_some.1 h1
  exact ⟨x, v, h2, h3, rfl⟩
theorem pairS_snoc {L : List Sr} {mv : List Value} (h : mv.length = L.length) (x : Sr) (v : Value) : pairS (L ++ [x]) (mv ++ [v]) = pairS L mv ++ [(.string x.name, v)] := by
  rw [pairS, pairS, List.zip_append h.symm, List.map_append]; rfl
theorem add2 (b off j : Nat) : (⟨b, off, none⟩ : Addr).add j = ⟨b, off + j, none⟩ := by unfold Addr.add; split <;> simp_all
theorem srs_news {B : Nat} {w : World} {ad : Addr} {L : List Sr} {mv : List Value} (h : IsSrs B w (some ad) L mv) : ∀ (j : Nat) u, (flat2 (pairS L mv))[j]? = some u → w.cell? (ad.add j) = some u := fun j u hu => by
  obtain ⟨i, q, hq, hj⟩ := flat2_inv hu
  obtain ⟨x, v, hx, hv, rfl⟩ := pairS_inv hq
  obtain ⟨b, off, ha, _, hr⟩ := h.at_ (fun e => by rw [e] at hx; simp at hx)
  obtain rfl := Option.some.inj ha
  obtain ⟨h1, h2, _⟩ := hr i x v hx hv
  rcases hj with ⟨rfl, rfl⟩ | ⟨rfl, rfl⟩
  · rw [add2]; exact h1
  · rw [add2, ← Nat.add_assoc]; exact h2
theorem srs_one {B : Nat} {w : World} {a : Option Addr} {L : List Sr} {mv : List Value} (h : IsSrs B w a L mv) : ∀ u ∈ flat2 (pairS L mv), u.oneCell' = true := fun u hu => by
  obtain ⟨j, hj, rfl⟩ := List.getElem_of_mem hu
  obtain ⟨i, q, hq, hj'⟩ := flat2_inv (List.getElem?_eq_getElem hj)
  obtain ⟨x, v, hx, hv, rfl⟩ := pairS_inv hq
  obtain ⟨b, off, ha, _, hr⟩ := h.at_ (fun e => by rw [e] at hx; simp at hx)
  obtain ⟨_, _, am, cm, rfl, _⟩ := hr i x v hx hv
  rcases hj' with ⟨_, h⟩ | ⟨_, h⟩ <;> rw [h] <;> rfl
/-- a row of structs of one's own -/
theorem own_srs {w : World} {base n : Nat} {v : Value} {L : List Sr} {mv : List Value} (h : w.ownsRow base 52 2 v n (flat2 (pairS L mv))) (hn : n = L.length) (hl : mv.length = L.length) (hm : ∀ (i : Nat) x v, L[i]? = some x → mv[i]? = some v → IsMems w.heap.size w v x.mems) (hN : ∀ x ∈ L, x.name.size ≤ maxLen) :
    ∃ a cap, v = .slice a L.length cap ∧ IsSrs w.heap.size w a L mv := by
  subst hn
  rcases h.2 with ⟨rfl, h0⟩ | ⟨g, cap, cur, rfl, _, hg, _⟩
  · refine ⟨none, 0, by rw [h0], hl, fun hne => ?_, hN⟩
    have : L = [] := List.eq_nil_of_length_eq_zero h0
    exact absurd this hne
  · refine ⟨_, cap, rfl, hl, fun _ => ⟨g, 0, rfl, lt_of_heap hg, fun i x v hx hv => ?_⟩, hN⟩
    obtain ⟨h1, h2⟩ := flat2_at (pairS_at hx hv)
    have c1 := h.cells (g := g) rfl _ _ h1
    have c2 := h.cells (g := g) rfl _ _ h2
    rw [add2, Nat.zero_add] at c1 c2
    refine ⟨by rw [Nat.zero_add]; exact c1, by rw [Nat.zero_add]; exact c2, hm i x v hx hv⟩
/-- a new block's cells, behind what else is laid -/
theorem heap_new1 (w : World) (o o2 : Obj) : ((w.alloc o).alloc o2).heap[w.heap.size]? = some o := by
  rw [((Below.refl (w.alloc o).heap.size (w.alloc o)).alloc (Nat.le_refl _) o2).block _ (by simp)]; exact heap_alloc_new w o
theorem heap_new2 (w : World) (o o2 : Obj) : ((w.alloc o).alloc o2).heap[w.heap.size + 1]? = some o2 := by
  have := heap_alloc_new (w.alloc o) o2
  simpa using this
theorem own_nil {w : World} {g base k : Nat} {T : TypeId} (h : w.heap[g]? = some (.cells #[] T (0, 0))) (hb : base ≤ g) : w.ownsRow base T k (.slice (some ⟨g, 0, none⟩) 0 0) 0 [] :=
  ⟨by simp, .inr ⟨g, 0, #[], rfl, hb, h, Nat.le_refl _, by decide, by simp, by simp⟩⟩
theorem news2 {w : World} {g : Nat} {c0 c1 : Value} {T : TypeId} (h : w.heap[g]? = some (.cells #[c0, c1] T (0, 0))) : ∀ (j : Nat) u, [c0, c1][j]? = some u → w.cell? ((⟨g, 0, none⟩ : Addr).add j) = some u := fun j u hu => by
  obtain ⟨⟨h0, h1⟩, _⟩ := two_block h
  match j, hu with
  | 0, hu => obtain rfl := Option.some.inj hu; rw [add2]; exact h0
  | 1, hu => obtain rfl := Option.some.inj hu; rw [add2]; exact h1
theorem blw1 (w : World) (o : Obj) : Below w.heap.size w (w.alloc o).drew := ((Below.refl _ _).alloc (Nat.le_refl _) _).drew
theorem blw2 (w : World) (o o2 : Obj) : Below w.heap.size w ((w.alloc o).alloc o2).drew := (((Below.refl _ _).alloc (Nat.le_refl _) _).alloc (by simp) _).drew
theorem infoSt : (Tryz.prog.info? 52).map (fun i => (i.zero, i.size, i.bytes)) = some (some (.agg #[.string ⟨#[]⟩, .slice none 0 0]), 2, 40) := by kernel_rfl
end Go.Proofs.YtmmjmppfmjejkaaGreatDoor
namespace Go
theorem step_append_none {P : Program} {w : World} {ops : Array Oper} {o : Oper} {a : Act} {K : Act → World → Prop} {Q : Exit → Act → World → Prop} {E : Prop} (hgd : o.guard = none) (s x : Operand) (t : TypeId)
    (ho : o.op = .call { callee := .builtin .append, args := #[s, x], argTypes := #[t, t] })
    (base : Nat) (e : TypeId) (i : TypeInfo) (size : Nat) (ht : P.underlying t = some (.slice e)) (hi : P.info? e = some i)
    (v : Value) (n : Nat) (xs : List Value) (hs : a.eval s = v) (hown : w.ownsRow base e size v n xs) (hx : a.eval x = .slice none 0 0)
    (h : K (a.put o.dst v) w) : if Region.wanted o (yielded ops a.tmps) = true then Oper.wp P o a w K Q else E := by
  have hw : Region.wanted o (yielded ops a.tmps) = true := by simp [Region.wanted, hgd]
  rw [if_pos hw]
  have hrun := run_append_owned_none (P := P) (w := w) base t o.type e i size ht hi v n xs hown
  unfold Oper.wp
  simp [execOp, ho, resolve, invoke, builtin, hs, hx, hrun, Result.andThen]
  exact h
end Go
namespace Go.Proofs.YtmmjmppfmjejkaaGreatDoor
open Go.RowKit

theorem infoMe : (Tryz.prog.info? 62).map (fun i => (i.zero, i.size, i.bytes)) = some (some (.agg #[.string ⟨#[]⟩, .string ⟨#[]⟩]), 2, 32) := by kernel_rfl
theorem pairM_inv {ms : List (ByteArray × ByteArray)} {i : Nat} {q : Value × Value} (h : (pairM ms)[i]? = some q) : ∃ m, ms[i]? = some m ∧ q = (.string m.1, .string m.2) := by
  rw [pairM, List.getElem?_map, Option.map_eq_some_iff] at h
  obtain ⟨m, hm, rfl⟩ := h
  exact ⟨m, hm, rfl⟩
theorem pairM_length (ms : List (ByteArray × ByteArray)) : (pairM ms).length = ms.length := by simp [pairM]
theorem mems_one (ms : List (ByteArray × ByteArray)) : ∀ u ∈ flat2 (pairM ms), u.oneCell' = true := fun u hu => by
  obtain ⟨j, hj, rfl⟩ := List.getElem_of_mem hu
  obtain ⟨i, q, hq, hj'⟩ := flat2_inv (List.getElem?_eq_getElem hj)
  obtain ⟨m, hm, rfl⟩ := pairM_inv hq
  rcases hj' with ⟨_, h⟩ | ⟨_, h⟩ <;> rw [h] <;> rfl
theorem mems_news {B : Nat} {w : World} {ad : Addr} {n c : Nat} {ms : List (ByteArray × ByteArray)} (h : IsMems B w (.slice (some ad) n c) ms) : ∀ (j : Nat) u, (flat2 (pairM ms))[j]? = some u → w.cell? (ad.add j) = some u := fun j u hu => by
  obtain ⟨i, q, hq, hj⟩ := flat2_inv hu
  obtain ⟨m, hm, rfl⟩ := pairM_inv hq
  obtain ⟨a, cap, e, hr⟩ := h
  obtain ⟨b, off, ha, _, hc⟩ := hr (fun e => by rw [e] at hm; simp at hm)
  simp only [Value.slice.injEq] at e
  obtain ⟨e, _, _⟩ := e
  subst ha
  obtain rfl := Option.some.inj e
  obtain ⟨h1, h2⟩ := hc i m hm
  rcases hj with ⟨rfl, rfl⟩ | ⟨rfl, rfl⟩
  · rw [add2]; exact h1
  · rw [add2, ← Nat.add_assoc]; exact h2
theorem own_mems {w : World} {base : Nat} {v : Value} {ms : List (ByteArray × ByteArray)} (h : w.ownsRow base 62 2 v ms.length (flat2 (pairM ms))) : IsMems w.heap.size w v ms := by
  rcases h.2 with ⟨rfl, h0⟩ | ⟨g, cap, cur, rfl, _, hg, _⟩
  · have : ms = [] := List.eq_nil_of_length_eq_zero h0
    subst this
    exact ⟨none, 0, rfl, fun h => absurd rfl h⟩
  · refine ⟨_, cap, rfl, fun _ => ⟨g, 0, rfl, lt_of_heap hg, fun i m hm => ?_⟩⟩
    have hp : (pairM ms)[i]? = some (.string m.1, .string m.2) := by rw [pairM, List.getElem?_map, hm]; rfl
    obtain ⟨h1, h2⟩ := flat2_at hp
    have c1 := h.cells (g := g) rfl _ _ h1
    have c2 := h.cells (g := g) rfl _ _ h2
    rw [add2, Nat.zero_add] at c1 c2
    exact ⟨by rw [Nat.zero_add]; exact c1, by rw [Nat.zero_add]; exact c2⟩
theorem IsMems.kept {B : Nat} {w w' : World} {v : Value} {ms : List (ByteArray × ByteArray)} {row : Option Nat} (h : IsMems B w v ms) (hB : B ≤ w.heap.size) (hg : w.grownBy w' row) (hne : ∀ k, v.ownBlock = some k → row ≠ some k) : IsMems B w' v ms := by
  obtain ⟨a, cap, rfl, hr⟩ := h
  refine ⟨a, cap, rfl, fun hn => ?_⟩
  obtain ⟨b, off, rfl, hlt, hc⟩ := hr hn
  refine ⟨b, off, rfl, hlt, fun i m hm => ?_⟩
  have hb : some b ≠ row := fun e => hne b rfl e.symm
  rw [hg.cell_far _ (show b < w.heap.size by omega) hb, hg.cell_far _ (show b < w.heap.size by omega) hb]
  exact hc i m hm

/-- what holds ahead of a round of lent -/
structure LentInv (w : World) (L : List Sr) (wy : World) (v : Value) (j : Nat) (mv : List Value) : Prop where
  own : wy.ownsRow w.heap.size 52 2 v j (flat2 (pairS (L.take j) mv))
  len : mv.length = j
  mems : ∀ (i : Nat) x u, (L.take j)[i]? = some x → mv[i]? = some u → IsMems wy.heap.size wy u x.mems ∧ ∀ k, u.ownBlock = some k → k < wy.heap.size ∧ v.ownBlock ≠ some k
  below : Below w.heap.size w wy
theorem lentInv_start (w : World) (L : List Sr) : LentInv w L (w.alloc (.cells #[] 52)) (.slice (some ⟨w.heap.size, 0, none⟩) 0 0) 0 [] :=
  ⟨World.ownsRow_made _ #[] 0 (Nat.le_refl _) (by decide) (by simp), rfl, fun i x u hx => by simp at hx, (Below.refl _ _).alloc (Nat.le_refl _) _⟩
theorem LentInv.next {w wr w3 w4 w5 : World} {L : List Sr} {v v1 v' : Value} {j : Nat} {mv : List Value} {x : Sr} (h : LentInv w L wr v j mv) (hx : L[j]? = some x)
    (hown1 : w3.ownsRow wr.heap.size 62 2 v1 x.mems.length (flat2 (pairM x.mems))) (h3 : Below wr.heap.size wr w3) (h4 : Below w3.heap.size w3 w4)
    (hown5 : w5.ownsRow w.heap.size 52 2 v' (j + 1) (flat2 (pairS (L.take j) mv) ++ [.string x.name, v1])) (hg : w4.grownBy w5 v.ownBlock) (hl : v'.ownBlock = v.ownBlock ∨ v'.ownBlock = some w4.heap.size) :
    LentInv w L w5 v' (j + 1) (mv ++ [v1]) := by
  have hjl : j < L.length := by obtain ⟨h1, _⟩ := List.getElem?_eq_some_iff.1 hx; exact h1
  have htk : L.take (j + 1) = L.take j ++ [x] := by
    obtain ⟨h1, rfl⟩ := List.getElem?_eq_some_iff.1 hx
    exact take_at L j h1
  have htl : (L.take j).length = j := by rw [List.length_take]; omega
  have h34 : Below wr.heap.size wr w4 := h3.trans (h4.mono h3.size)
  have hs4 := h34.size
  have hs3 := h3.size
  have hs43 := h4.size
  refine ⟨?_, by simp [h.len], fun i y u hy hu => ?_, ?_⟩
  · rw [htk, pairS_snoc (by rw [h.len, htl]), flat2_append]
    exact hown5
  · rw [htk] at hy
    have key : ∃ B, B ≤ w4.heap.size ∧ IsMems B w4 u y.mems ∧ ∀ k, u.ownBlock = some k → k < w4.heap.size ∧ v.ownBlock ≠ some k := by
      rcases Nat.lt_or_ge i j with hlt | hge
      · rw [List.getElem?_append_left (by omega)] at hy
        rw [List.getElem?_append_left (by rw [h.len]; exact hlt)] at hu
        obtain ⟨h1, h2⟩ := h.mems i y u hy hu
        exact ⟨wr.heap.size, hs4, h1.below h34 (Nat.le_refl _), fun k hk => ⟨Nat.lt_of_lt_of_le (h2 k hk).1 hs4, (h2 k hk).2⟩⟩
      · obtain rfl : i = j := by
          have := (List.getElem?_eq_some_iff.1 hu).1
          simp [h.len] at this; omega
        rw [List.getElem?_append_right (by omega), htl, Nat.sub_self] at hy
        rw [List.getElem?_append_right (by rw [h.len]; exact Nat.le_refl _), h.len, Nat.sub_self] at hu
        obtain rfl := Option.some.inj hy
        obtain rfl := Option.some.inj hu
        refine ⟨w3.heap.size, hs43, (own_mems hown1).below h4 (Nat.le_refl _), fun k hk => ?_⟩
        obtain ⟨h1, h2⟩ := hown1.lt k hk
        refine ⟨by omega, fun e => ?_⟩
        have := (h.own.lt k e).2
        omega
    obtain ⟨B, hB, h1, h2⟩ := key
    refine ⟨(h1.kept hB hg (fun k hk => (h2 k hk).2)).mono (Nat.le_trans hB hg.size), fun k hk => ?_⟩
    obtain ⟨h3, h4⟩ := h2 k hk
    refine ⟨Nat.lt_of_lt_of_le h3 hg.size, fun e => ?_⟩
    rcases hl with hl | hl
    · exact h4 (hl ▸ e)
    · rw [hl] at e
      have := Option.some.inj e
      omega
  · exact (h.below.trans (h34.mono h.below.size)).grown hg (Nat.le_trans h.below.size hs4) (fun k hk => (h.own.lt k hk).1)
theorem LentInv.done {w wr : World} {L : List Sr} {v : Value} {mv : List Value} (h : LentInv w L wr v L.length mv) (hN : ∀ x ∈ L, x.name.size ≤ maxLen) : ∃ a cap, v = .slice a L.length cap ∧ IsSrs wr.heap.size wr a L mv := by
  have ht : L.take L.length = L := List.take_length
  have h1 := h.own
  rw [ht] at h1
  refine own_srs h1 rfl h.len (fun i x u hx hu => (h.mems i x u (by rw [ht]; exact hx) hu).1) hN

/-- how lent ends -/
def LentEnd (L : List Sr) (w : World) (e : Ending) (w' : World) : Prop := (∃ a cap mv, e = .returned (.slice a L.length cap) ∧ IsSrs w'.heap.size w' a L mv) ∧ Below w.heap.size w w'
theorem lentEnd {L : List Sr} {w w' : World} {v : Value} {mv : List Value} (h : LentInv w L w' v L.length mv) (hN : ∀ x ∈ L, x.name.size ≤ maxLen) : LentEnd L w (.returned v) w' := by
  obtain ⟨a, cap, rfl, hs⟩ := h.done hN
  exact ⟨⟨a, cap, mv, rfl, hs⟩, h.below⟩

set_option maxRecDepth 100000 in
set_option maxHeartbeats 4000000 in
theorem lent_ok (a : Option Addr) (cap : Nat) (L : List Sr) (mv : List Value) (w : World) (hS : IsSrs w.heap.size w a L mv) (hz : L.length * 40 ≤ 140737488351232) (hm : ∀ x ∈ L, x.mems.length * 32 ≤ 140737488351232) (hnil : ∀ v ∈ mv, ∀ n c, v = .slice none n c → n = 0 ∧ c = 0) :
    Calls Tryz.prog 6 #[.slice a L.length cap] w (LentEnd L w) := by
  have HS := Lib.hid hS
  have HM := Lib.hid hm
  have HNil := Lib.hid hnil
  have hLl : (L.length : Int) ≤ 140737488351232 := by omega
  obtain ⟨i0, hi, hz0, hz1, hz2⟩ := info_parts infoSt
  have HI0 := Lib.hid (And.intro hi (And.intro hz0 (And.intro hz1 hz2)))
  clear hi hz0 hz1 hz2
  obtain ⟨i1, hi, hz0, hz1, hz2⟩ := info_parts infoMe
  have HI1 := Lib.hid (And.intro hi (And.intro hz0 (And.intro hz1 hz2)))
  clear hi hz0 hz1 hz2 hS hm hnil
  go_enter Tryz.func6, Tryz.ntmps6
  go_wp2_with fail
  go_loopg [3, 9] L.length (fun g v3 v9 wy => ∃ (j : Nat) (mv' : List Value), j ≤ L.length ∧ j + g = L.length ∧ v9 = .int .i64 (j : Int) ∧ Hid (LentInv w L wy v3 j mv'))
  case atStart => exact ⟨0, [], by omega, by omega, rfl, lentInv_start w L⟩
  case round =>
    obtain ⟨j, mv', hj, hjg, rfl, HI⟩ := hrel
    by_cases hlt : j < L.length
    · obtain ⟨bb, off, ha, hbl, hrow⟩ := HS.out.at_ (fun e => by rw [e] at hlt; simp at hlt)
      subst ha
      have hlm : j < mv.length := by rw [HS.out.len]; exact hlt
      obtain ⟨c1, c2, hms⟩ := hrow j _ _ (List.getElem?_eq_getElem hlt) (List.getElem?_eq_getElem hlm)
      rw [← HI.out.below.cell hbl] at c1 c2
      have HX := Lib.hid (List.getElem?_eq_getElem hlt)
      have hm32 := HM.out _ (List.getElem_mem hlt)
      have hnl := HNil.out _ (List.getElem_mem hlm)
      generalize L[j]'hlt = x at *
      generalize mv[j]'hlm = u at *
      have HMs := Lib.hid hms
      obtain ⟨am, cm, rfl, _⟩ := hms
      have HNl := Lib.hid (hnl x.mems.length cm)
      clear hrow hnl hlm
      go_upto_region 5 with fail
      have hm2 : (wr.alloc (.cells #[.string x.name, .slice am x.mems.length cm] 52)).heap[wr.heap.size]? = some (.cells #[.string x.name, .slice am x.mems.length cm] 52 (0, 0)) := heap_alloc_new _ _
      have hb2 : Below wr.heap.size wr (wr.alloc (.cells #[.string x.name, .slice am x.mems.length cm] 52)) := (Below.refl _ _).alloc (Nat.le_refl _) _
      generalize wr.alloc (.cells #[.string x.name, .slice am x.mems.length cm] 52) = w2 at *
      have hz2 := lt_of_heap hm2
      obtain ⟨⟨m0, m1⟩, _⟩ := two_block hm2
      have HB2 := Lib.hid hb2
      have HM2 := Lib.hid hm2
      clear hb2 hm2 c1 c2
      have HO := Lib.hid HI.out.own
      have HCl := Lib.hid (show ∀ w', Below w2.heap.size w2 w' → w'.cell? ⟨wr.heap.size, 0, none⟩ = some (.string x.name) ∧ w'.cell? ⟨wr.heap.size, 1, none⟩ = some (.slice am x.mems.length cm) from fun w' hb => ⟨by rw [hb.cell hz2]; exact m0, by rw [hb.cell hz2]; exact m1⟩)
      have HMw := Lib.hid (show ∀ w', Below w2.heap.size w2 w' → IsMems w.heap.size w' (.slice am x.mems.length cm) x.mems from fun w' hb => HMs.out.below (HI.out.below.trans ((HB2.out.trans (hb.mono HB2.out.size)).mono HI.out.below.size)) (Nat.le_refl _))
      have HNums := Lib.hid (show 0 + x.mems.length ≤ maxLen ∧ (0 + x.mems.length) * 32 ≤ 140737488355328 ∧ j + 1 ≤ maxLen ∧ (j + 1) * 40 ≤ 140737488355328 from ⟨by unfold maxLen; omega, by omega, by unfold maxLen; omega, by omega⟩)
      have HMl := Lib.hid (show (flat2 (pairM x.mems)).length = x.mems.length * 2 by rw [flat2_length, pairM_length])
      cases am with
      | none =>
        obtain ⟨h0, h00⟩ := HNl.out rfl
        have hms0 : x.mems = [] := List.eq_nil_of_length_eq_zero h0
        have HO1 := Lib.hid (show (w2.alloc (.cells #[] 62)).drew.ownsRow wr.heap.size 62 2 (.slice (some ⟨w2.heap.size, 0, none⟩) 0 0) x.mems.length (flat2 (pairM x.mems)) by rw [hms0]; exact own_nil (heap_alloc_new _ _) HB2.out.size)
        rw [h0, h00] at m1 HCl
        clear hms0
        go_region_held3 (fun w' => w'.cell? ⟨wr.heap.size, 0, none⟩ = some (.string x.name) ∧ w'.cell? ⟨wr.heap.size, 1, none⟩ = some (.slice none 0 0)) (first | (constructor <;> assumption) | exact HCl.out _ ((Below.refl _ _).drew) | exact HCl.out _ (blw1 _ _) | exact HCl.out _ (blw2 _ _ _))
          (first
            | (refine step_append_none (by rfl) _ _ _ (by rfl) wr.heap.size 62 i1 2 Tryz.underlying50 HI1.out.1 _ 0 [] (by rfl) (own_nil ?_ ?_) (by rfl) ?_; (next => exact heap_alloc_new _ _); (next => exact HB2.out.size))
            | (refine step_append_lies _ (by rfl) _ _ _ (by rfl) w.heap.size 52 i0 (.agg #[.string ⟨#[]⟩, .slice none 0 0]) 2 40 Tryz.underlying23 HI0.out.1 HI0.out.2.1 HI0.out.2.2.1 HI0.out.2.2.2 (by rfl) (by decide) _ j (flat2 (pairS (L.take j) mv')) (by rfl) ?_ ⟨w2.heap.size + 1, 0, none⟩ 1 1 [.string x.name, .slice (some ⟨w2.heap.size, 0, none⟩) 0 0] (by rfl) (by rfl) (news2 (T := 52) ?_) ?_ (by decide) HNums.out.2.2.1 HNums.out.2.2.2 ?_ (w2.heap.size + 1 + 1) ?_ ?_; (next => exact HO.out.belowed (HB2.out.trans ((blw2 _ _ _).mono HB2.out.size))); (next => exact heap_new2 _ _ _); (next => simp [Value.oneCell']); (next => simp; have := HI.out.below.size; have := HB2.out.size; omega); (next => simp); intro g cp w5 hown5 hgrow5 hat5 hlt5; have HN5 := Lib.hid (HI.out.next HX.out HO1.out (HB2.out.trans ((blw1 _ _).mono HB2.out.size)) ((Below.refl (w2.alloc (.cells #[] 62)).drew.heap.size (w2.alloc (.cells #[] 62)).drew).alloc (Nat.le_refl _) _) hown5 hgrow5 (by rcases hat5 with h | h; exact .inl h.symm; exact .inr (by rw [h]; simp [Value.ownBlock]))); have hcl3 := HCl.out _ (blw2 w2 (.cells #[] 62) (.cells #[.string x.name, .slice (some ⟨w2.heap.size, 0, none⟩) 0 0] 52)); have k2 := (hgrow5.cell_far ⟨wr.heap.size, 0, none⟩ (by simp; omega) (fun e => absurd (HO.out.lt _ e.symm).2 (Nat.lt_irrefl _))).trans hcl3.1; have k3 := (hgrow5.cell_far ⟨wr.heap.size, 1, none⟩ (by simp; omega) (fun e => absurd (HO.out.lt _ e.symm).2 (Nat.lt_irrefl _))).trans hcl3.2; clear hown5 hgrow5 hat5 hlt5 hcl3))
        go_wp2_with fail
        go_roundg (L.length - (j + 1))
        case measure => omega
        case rel => exact ⟨j + 1, mv' ++ [.slice (some ⟨w2.heap.size, 0, none⟩) 0 0], by omega, by omega, by rw [Int.natCast_add]; rfl, HN5⟩
      | some ad =>
        go_region_held3 (fun w' => w'.cell? ⟨wr.heap.size, 0, none⟩ = some (.string x.name) ∧ w'.cell? ⟨wr.heap.size, 1, none⟩ = some (.slice (some ad) x.mems.length cm)) (first | (constructor <;> assumption) | exact HCl.out _ ((Below.refl _ _).drew) | exact HCl.out _ (blw1 _ _) | exact HCl.out _ (HB3.out.alloc HB3.out.size _))
          (first
            | (refine step_append_own (by rfl) _ _ _ (by rfl) wr.heap.size 62 i1 (.agg #[.string ⟨#[]⟩, .string ⟨#[]⟩]) 2 32 Tryz.underlying50 HI1.out.1 HI1.out.2.1 HI1.out.2.2.1 HI1.out.2.2.2 (by rfl) (by decide) _ 0 [] (by rfl) (own_nil ?_ ?_) ad x.mems.length cm (flat2 (pairM x.mems)) (by rfl) HMl.out (mems_news (HMw.out _ ?_)) (mems_one _) HNums.out.1 HNums.out.2.1 ?_ ?_; (next => exact heap_alloc_new _ _); (next => exact HB2.out.size); (next => exact blw1 _ _); (next => exact Nat.le_trans HB2.out.size (blw1 _ _).size); intro v1 w3 hown1 hgrow1 _; have HO1 := Lib.hid (show w3.ownsRow wr.heap.size 62 2 v1 x.mems.length (flat2 (pairM x.mems)) by simpa using hown1); have HB3 := Lib.hid (show Below w2.heap.size w2 w3 by (refine Below.grown ?_ hgrow1 ?_ ?_; (next => exact blw1 _ _); (next => exact (blw1 _ _).size); (next => intro q hq; simp [Value.ownBlock] at hq; omega))); clear hown1 hgrow1; obtain ⟨a1, c1, rfl, _⟩ := own_mems HO1.out; obtain ⟨k0, k1⟩ := HCl.out _ HB3.out)
            | (refine step_append_lies _ (by rfl) _ _ _ (by rfl) w.heap.size 52 i0 (.agg #[.string ⟨#[]⟩, .slice none 0 0]) 2 40 Tryz.underlying23 HI0.out.1 HI0.out.2.1 HI0.out.2.2.1 HI0.out.2.2.2 (by rfl) (by decide) _ j (flat2 (pairS (L.take j) mv')) (by rfl) ?_ ⟨w3.heap.size, 0, none⟩ 1 1 [.string x.name, .slice a1 x.mems.length c1] (by rfl) (by rfl) (news2 (T := 52) ?_) ?_ (by decide) HNums.out.2.2.1 HNums.out.2.2.2 ?_ (w3.heap.size + 1) ?_ ?_; (next => exact (HO.out.belowed (HB2.out.trans (HB3.out.mono HB2.out.size))).alloc _); (next => exact heap_alloc_new _ _); (next => simp [Value.oneCell']); (next => simp; have := HO.out.lt; have := (HI.out.below.trans ((HB2.out.trans (HB3.out.mono HB2.out.size)).mono HI.out.below.size)).size; omega); (next => simp); intro g cp w5 hown5 hgrow5 hat5 hlt5; have HN5 := Lib.hid (HI.out.next HX.out HO1.out (HB2.out.trans (HB3.out.mono HB2.out.size)) ((Below.refl w3.heap.size w3).alloc (Nat.le_refl _) _) hown5 hgrow5 (by rcases hat5 with h | h; exact .inl h.symm; exact .inr (by rw [h]; simp [Value.ownBlock]))); have hcl3 := HCl.out _ (HB3.out.alloc HB3.out.size (.cells #[.string x.name, .slice a1 x.mems.length c1] 52)); have k2 := (hgrow5.cell_far ⟨wr.heap.size, 0, none⟩ (by simp; have := HB3.out.size; omega) (fun e => absurd (HO.out.lt _ e.symm).2 (Nat.lt_irrefl _))).trans hcl3.1; have k3 := (hgrow5.cell_far ⟨wr.heap.size, 1, none⟩ (by simp; have := HB3.out.size; omega) (fun e => absurd (HO.out.lt _ e.symm).2 (Nat.lt_irrefl _))).trans hcl3.2; clear hown5 hgrow5 hat5 hlt5 hcl3))
        go_wp2_with fail
        go_roundg (L.length - (j + 1))
        case measure => omega
        case rel => exact ⟨j + 1, mv' ++ [.slice a1 x.mems.length c1], by omega, by omega, by rw [Int.natCast_add]; rfl, HN5⟩
    · obtain rfl : j = L.length := by omega
      have t3 : (L.length : Int) ≤ (L.length : Int) := Int.le_refl _
      go_wp2_with fail
      go_ret
      exact lentEnd HI.out HS.out.names
end Go.Proofs.YtmmjmppfmjejkaaGreatDoor
namespace Go.Proofs.YtmmjmppfmjejkaaGreatDoor
open Go.ChangeShapes Go.WideShapes Go.ChangeAt Go.RowKit Go.Deep

/-- a slice of elements of k cells each, below B -/
def IsSl {α : Type} (k : Nat) (cells : α → List Value) (B : Nat) (w : World) (a : Option Addr) (L : List α) : Prop :=
  L ≠ [] → ∃ b off, a = some ⟨b, off, none⟩ ∧ b < B ∧ ∀ (i : Nat) t, L[i]? = some t → ∀ (j : Nat) u, (cells t)[j]? = some u → w.cell? ⟨b, off + i * k + j, none⟩ = some u
theorem IsSl.below {α : Type} {k : Nat} {cells : α → List Value} {B B' : Nat} {w w' : World} {a : Option Addr} {L : List α} (h : IsSl k cells B w a L) (hb : Below B' w w') (hB : B ≤ B') : IsSl k cells B w' a L := fun hn => by
  obtain ⟨b, off, rfl, hlt, hc⟩ := h hn
  exact ⟨b, off, rfl, hlt, fun i t ht j u hu => by rw [hb.cell (show b < B' by omega)]; exact hc i t ht j u hu⟩
theorem IsSl.mono {α : Type} {k : Nat} {cells : α → List Value} {B B' : Nat} {w : World} {a : Option Addr} {L : List α} (h : IsSl k cells B w a L) (hB : B ≤ B') : IsSl k cells B' w a L := fun hn => by
  obtain ⟨b, off, rfl, hlt, hc⟩ := h hn
  exact ⟨b, off, rfl, by omega, hc⟩
theorem isSl_nil {α : Type} {k : Nat} {cells : α → List Value} {B : Nat} {w : World} {a : Option Addr} : IsSl k cells B w a [] := fun h => absurd rfl h

section
variable {H : Type} {enc : TypeId × Value → H} {w : World} {base : Nat} {spare : Nat → Bool} {held : Bool}
/-- a slice, opened by its elements: k cells each -/
theorem open_list {t e : TypeId} {k : Nat} (hk0 : 0 < k) (ht : Tryz.prog.underlying t = some (.slice e)) (hk : Tryz.prog.cellsOf e = k) {α : Type} (cells : α → List Value) (data : α → DataW H) (Ok : α → Prop)
    (hel : ∀ {n : Nat} {cs : List Value} {D : DataW H} {pl : List MemPlace}, DataW.trod enc Tryz.prog w base spare held n e cs = some (D, pl) → ∃ a, cs = cells a ∧ D = data a ∧ Ok a)
    {fuel : Nat} {v : Value} {x : DataW H × List MemPlace} (h : DataW.trod enc Tryz.prog w base spare held fuel t [v] = some x) :
    ∃ (a : Option Addr) (cap : Nat) (L : List α), v = .slice a L.length cap ∧ L.length ≤ cap ∧ cap ≤ maxLen ∧ (a = none → L = [] ∧ cap = 0) ∧ ((x.1 = .nil ∧ L = []) ∨ ∃ rest, x.1 = .slice (L.map data) rest) ∧ IsSl k cells w.heap.size w a L ∧ ∀ t ∈ L, Ok t := by
  rcases open_slice ht h with ⟨hv, hx⟩ | ⟨a, len, cap, m, n, D, Pl, hv, _, hl, hcm, hm, hx, hi⟩
  · exact ⟨none, 0, [], by simpa using hv, Nat.zero_le _, Nat.zero_le _, fun _ => ⟨rfl, rfl⟩, .inl ⟨by rw [hx], rfl⟩, isSl_nil, fun t ht => by cases ht⟩
  · have hlm : len ≤ m := by rw [hm]; split <;> omega
    have hD : ∀ i, i < len → ∃ t : α, D i = data t ∧ Ok t ∧ (cells t).length = k ∧ ∀ j, j < k → w.cell? ((a.add (i * k)).add j) = (cells t)[j]? := fun i hlt => by
      obtain ⟨cs', hc, ht⟩ := hi i (by omega)
      obtain ⟨t, rfl, hd, hok⟩ := hel ht
      rw [hk] at hc
      exact ⟨t, hd, hok, (World.cells?_some hc).2⟩
    have key : ∀ q, q ≤ len → ∃ L : List α, L.length = q ∧ (List.range q).map D = L.map data ∧ ∀ (i : Nat) t, L[i]? = some t → Ok t ∧ (cells t).length = k ∧ ∀ j, j < k → w.cell? ((a.add (i * k)).add j) = (cells t)[j]? := by
      intro q
      induction q with
      | zero => intro _; exact ⟨[], rfl, rfl, fun i t hi => by simp at hi⟩
      | succ q ih =>
        intro hq
        obtain ⟨L, hL, hm', hc⟩ := ih (by omega)
        obtain ⟨t, hd, hok, hcell⟩ := hD q (by omega)
        refine ⟨L ++ [t], by simp [hL], by rw [List.range_succ, List.map_append, List.map_append, hm']; simp [hd], fun i u hu => ?_⟩
        rcases Nat.lt_or_ge i L.length with h' | h'
        · rw [List.getElem?_append_left h'] at hu; exact hc i u hu
        · rw [List.getElem?_append_right h'] at hu
          have hi0 : i - L.length = 0 := by
            rcases Nat.eq_zero_or_pos (i - L.length) with h0 | h0
            · exact h0
            · rw [List.getElem?_eq_none (by simp; omega)] at hu; cases hu
          rw [hi0] at hu
          obtain rfl := Option.some.inj hu
          obtain rfl : i = q := by omega
          exact ⟨hok, hcell⟩
    obtain ⟨L, hL, hm', hc⟩ := key len (Nat.le_refl _)
    subst hL
    refine ⟨some a, cap, L, by simpa using hv, hl, hcm, (fun h => by cases h), .inr ⟨_, by rw [hx, hm']⟩, fun hne => ?_, fun t ht => ?_⟩
    · obtain ⟨b, off, sp⟩ := a
      have h0 : 0 < L.length := List.length_pos_iff.2 hne
      have hsp : sp = none := by
        obtain ⟨_, hlk, hat⟩ := hc 0 _ (List.getElem?_eq_getElem h0)
        have h := hat 0 hk0
        rw [List.getElem?_eq_getElem (by omega)] at h
        simp only [Nat.zero_mul, Addr.add, if_true, World.cell?] at h
        cases sp with
        | none => rfl
        | some z =>
          exfalso
          simp at h
          split at h <;> simp at h
      subst hsp
      have hadd : ∀ i j, (((⟨b, off, none⟩ : Addr).add i).add j) = ⟨b, off + i + j, none⟩ := by
        intro i j
        unfold Addr.add
        split <;> split <;> simp_all
      have hall : ∀ (i : Nat) t, L[i]? = some t → ∀ (j : Nat) u, (cells t)[j]? = some u → w.cell? ⟨b, off + i * k + j, none⟩ = some u := fun i t ht j u hu => by
        obtain ⟨_, hlk, hat⟩ := hc i t ht
        have hj : j < k := by obtain ⟨h1, _⟩ := List.getElem?_eq_some_iff.1 hu; omega
        have := hat j hj
        rw [hadd] at this
        rw [this, hu]
      refine ⟨b, off, rfl, ?_, hall⟩
      obtain ⟨_, hlk, _⟩ := hc 0 _ (List.getElem?_eq_getElem h0)
      exact World.block_lt_of_cell? w _ (hall 0 _ (List.getElem?_eq_getElem h0) 0 _ (List.getElem?_eq_getElem (by omega)))
    · obtain ⟨i, hi, rfl⟩ := List.getElem_of_mem ht
      exact (hc i _ (List.getElem?_eq_getElem hi)).1
end
end Go.Proofs.YtmmjmppfmjejkaaGreatDoor
namespace Go.Proofs.YtmmjmppfmjejkaaGreatDoor
open Go.ChangeShapes Go.WideShapes Go.ChangeAt Go.RowKit Go.Deep

section
variable {H : Type} {enc : TypeId × Value → H} {w : World} {base : Nat} {spare : Nat → Bool} {held : Bool}
def memCells (m : ByteArray × ByteArray) : List Value := [.string m.1, .string m.2]
def memData (m : ByteArray × ByteArray) : DataW H := .agg [.lit (.string m.1.data.toList), .lit (.string m.2.data.toList)]
theorem cellsMem : Tryz.prog.cellsOf 62 = 2 := by kernel_rfl
theorem cellsSt : Tryz.prog.cellsOf 52 = 2 := by kernel_rfl
theorem cellsS1 : Tryz.prog.cellsOf 9 = 1 := by kernel_rfl
theorem cellsT1 : Tryz.prog.cellsOf 22 = 1 := by kernel_rfl
theorem cellsMs : Tryz.prog.cellsOf 50 = 1 := by kernel_rfl
set_option maxRecDepth 100000 in
theorem open_mem {n : Nat} {cs : List Value} {D : DataW H} {pl : List MemPlace} (h : DataW.trod enc Tryz.prog w base spare held n 62 cs = some (D, pl)) :
    ∃ m : ByteArray × ByteArray, cs = memCells m ∧ D = memData m ∧ m.1.size ≤ maxLen := by
  obtain ⟨xs, n', _, hx, hlen, hxs, hf⟩ := DataW.trod_struct Tryz.underlying62 h
  rw [cellsMem] at hlen
  match cs, hlen with
  | [c0, c1], _ =>
    match xs, hxs with
    | [y0, y1], _ =>
      have f0 := hf 0 _ rfl
      have f1 := hf 1 _ rfl
      simp [cellsS1] at f0
      simp [cellsT1] at f1
      obtain ⟨a, e0, r0, l0⟩ := DataW.trod_string Tryz.underlying9 f0
      obtain ⟨b, e1, r1, _⟩ := DataW.trod_string Tryz.underlying22 f1
      simp only [List.cons.injEq, and_true] at e0 e1
      subst e0 e1 r0 r1
      exact ⟨(a, b), rfl, congrArg Prod.fst hx, l0⟩
theorem isMems_of {w : World} {a : Option Addr} {cap : Nat} {L : List (ByteArray × ByteArray)} {B : Nat} (h : IsSl 2 memCells B w a L) : IsMems B w (.slice a L.length cap) L :=
  ⟨a, cap, rfl, fun hn => by
    obtain ⟨b, off, e, hlt, hc⟩ := h hn
    exact ⟨b, off, e, hlt, fun i m hm => ⟨hc i m hm 0 _ rfl, hc i m hm 1 _ rfl⟩⟩⟩
/-- a struct as it comes: its parts, its members' slice, how that reads -/
def srCells (q : Sr × Value × DataW H) : List Value := [.string q.1.name, q.2.1]
def srData (q : Sr × Value × DataW H) : DataW H := .agg [.lit (.string q.1.name.data.toList), q.2.2]
def SrOk (w : World) (q : Sr × Value × DataW H) : Prop := q.1.name.size ≤ maxLen ∧ IsMems w.heap.size w q.2.1 q.1.mems ∧ (∀ m ∈ q.1.mems, m.1.size ≤ maxLen) ∧ (∀ cap n, q.2.1 = .slice none n cap → n = 0 ∧ cap = 0) ∧ ((q.2.2 = .nil ∧ q.1.mems = []) ∨ ∃ rest, q.2.2 = .slice (q.1.mems.map memData) rest)
set_option maxRecDepth 100000 in
theorem open_sr {n : Nat} {cs : List Value} {D : DataW H} {pl : List MemPlace} (h : DataW.trod enc Tryz.prog w base spare held n 52 cs = some (D, pl)) :
    ∃ q : Sr × Value × DataW H, cs = srCells q ∧ D = srData q ∧ SrOk w q := by
  obtain ⟨xs, n', _, hx, hlen, hxs, hf⟩ := DataW.trod_struct Tryz.underlying52 h
  rw [cellsSt] at hlen
  match cs, hlen with
  | [c0, c1], _ =>
    match xs, hxs with
    | [y0, y1], _ =>
      have f0 := hf 0 _ rfl
      have f1 := hf 1 _ rfl
      simp [cellsS1] at f0
      simp [cellsMs] at f1
      obtain ⟨a, e0, r0, l0⟩ := DataW.trod_string Tryz.underlying9 f0
      simp only [List.cons.injEq, and_true] at e0
      subst e0 r0
      obtain ⟨am, cm, L, rfl, _, hl, hn, hd, hs, hok⟩ := open_list (by decide) Tryz.underlying50 cellsMem memCells memData (fun m => m.1.size ≤ maxLen) (fun h => open_mem h) f1
      refine ⟨(⟨a, L⟩, .slice am L.length cm, y1.1), rfl, congrArg Prod.fst hx, l0, isMems_of hs, hok, fun cap n e => ?_, hd⟩
      simp only [Value.slice.injEq] at e
      obtain ⟨e1, e2, e3⟩ := e
      obtain ⟨h1, h2⟩ := hn e1
      exact ⟨by rw [← e2, h1]; rfl, by omega⟩
/-- the whole argument -/
theorem open_srs {fuel : Nat} {v : Value} {x : DataW H × List MemPlace} (h : DataW.trod enc Tryz.prog w base spare held fuel 23 [v] = some x) :
    ∃ (a : Option Addr) (cap : Nat) (Q : List (Sr × Value × DataW H)), v = .slice a Q.length cap ∧ Q.length ≤ cap ∧ cap ≤ maxLen ∧ (a = none → Q = [] ∧ cap = 0) ∧ ((x.1 = .nil ∧ Q = []) ∨ ∃ rest, x.1 = .slice (Q.map srData) rest) ∧ IsSrs w.heap.size w a (Q.map Prod.fst) (Q.map fun q => q.2.1) ∧ ∀ q ∈ Q, SrOk w q := by
  obtain ⟨a, cap, Q, hv, hl, hc, hn, hd, hs, hok⟩ := open_list (by decide) Tryz.underlying23 cellsSt srCells srData (SrOk w) (fun h => open_sr h) h
  refine ⟨a, cap, Q, hv, hl, hc, hn, hd, ⟨by simp, fun hne => ?_, fun y hy => ?_⟩, hok⟩
  · obtain ⟨b, off, e, hlt, hc⟩ := hs (fun e => hne (by rw [e]; rfl))
    refine ⟨b, off, e, hlt, fun i y u hy hu => ?_⟩
    rw [List.getElem?_map, Option.map_eq_some_iff] at hy hu
    obtain ⟨q, hq, rfl⟩ := hy
    obtain ⟨q', hq', rfl⟩ := hu
    obtain rfl := Option.some.inj (hq.symm.trans hq')
    exact ⟨hc i q hq 0 _ rfl, hc i q hq 1 _ rfl, (hok q (List.mem_of_getElem? hq)).2.1⟩
  · obtain ⟨q, hq, rfl⟩ := List.mem_map.1 hy
    exact (hok q hq).1
theorem weightsAll_mem {P : Program} {e : TypeId} {l : List (DataW H)} {d : DataW H} (h : d ∈ l) {n : Nat} (hn : n ∈ d.weights P e) : n ∈ DataW.weightsAll P e l := by
  induction l with
  | nil => cases h
  | cons x r ih =>
    rw [DataW.weightsAll]
    rcases List.mem_cons.1 h with rfl | h
    · exact List.mem_append_left _ hn
    · exact List.mem_append_right _ (ih h)
/-- the bounds on their bytes -/
theorem srs_sized {ts : List TypeId} {ds : List (DataW H)} (hw : (DataW.weightsEach Tryz.prog ts ds).all (· ≤ reachBytes) = true) {j : Nat} {D : DataW H} {Q : List (Sr × Value × DataW H)} (ht : ts[j]? = some 23) (hD : ds[j]? = some D) (hd : (D = .nil ∧ Q = []) ∨ ∃ rest, D = .slice (Q.map srData) rest) (hok : ∀ q ∈ Q, SrOk w q) :
    Q.length * 40 ≤ 140737488351232 ∧ ∀ q ∈ Q, q.1.mems.length * 32 ≤ 140737488351232 := by
  rcases hd with ⟨_, rfl⟩ | ⟨rest, rfl⟩
  · exact ⟨by simp, fun q hq => by cases hq⟩
  have hr : reachBytes = 140737488351232 := rfl
  refine ⟨?_, fun q hq => ?_⟩
  · have := sized_slice hw ht hD Tryz.underlying23
    rw [show Tryz.prog.bytesOf 52 = 40 by kernel_rfl, List.length_map, hr] at this
    omega
  · rcases (hok q hq).2.2.2.2 with ⟨_, h0⟩ | ⟨rm, h0⟩
    · rw [h0]; simp
    · have hm : (q.1.mems.length + rm.length) * 32 ∈ (srData q).weights Tryz.prog 52 := by
        unfold srData
        rw [DataW.weights, Tryz.underlying52]
        simp only [DataW.weightsEach, List.map]
        refine List.mem_append_right _ (List.mem_append_left _ ?_)
        rw [h0, DataW.weights, Tryz.underlying50]
        simp only [List.length_map]
        rw [show Tryz.prog.bytesOf 62 = 32 by kernel_rfl]
        exact List.mem_cons_self
      have h1 : (q.1.mems.length + rm.length) * 32 ∈ (DataW.slice (Q.map srData) rest).weights Tryz.prog 23 := by
        rw [DataW.weights, Tryz.underlying23]
        exact List.mem_cons_of_mem _ (List.mem_append_left _ (weightsAll_mem (List.mem_map_of_mem hq) hm))
      have := List.all_eq_true.1 hw _ (DataW.weights_mem_each ht hD _ h1)
      rw [hr] at this
      have := of_decide_eq_true this
      omega
end
end Go.Proofs.YtmmjmppfmjejkaaGreatDoor
namespace Go.Proofs.YtmmjmppfmjejkaaGreatDoor
open Go.RowKit

set_option maxRecDepth 100000 in
set_option maxHeartbeats 8000000 in
theorem kept_ok (a b : Option Addr) (ca cb : Nat) (L : List Sr) (mv mu : List Value) (w : World) (hA : IsSrs w.heap.size w a L mv) (hB : IsSrs w.heap.size w b L mu) (hz : L.length * 40 ≤ 140737488351232) (hm : ∀ x ∈ L, x.mems.length * 32 ≤ 140737488351232) :
    Calls Tryz.prog 13 #[.slice a L.length ca, .slice b L.length cb] w fun e w' => e = .returned (.bool true) ∧ Below w.heap.size w w' := by
  have HA := Lib.hid hA
  have HB := Lib.hid hB
  have HM := Lib.hid hm
  have hLl : (L.length : Int) ≤ 140737488351232 := by omega
  have t0 : ((L.length : Int) != (L.length : Int)) = false := by simp
  clear hA hB hm
  go_enter Tryz.func13, Tryz.ntmps13
  go_wp2_with fail
  clear t0
  go_loopg [14] L.length (fun g v14 wy => ∃ (j : Nat), j ≤ L.length ∧ j + g = L.length ∧ v14 = .int .i64 (j : Int) ∧ Hid (Below w.heap.size w wy))
  case atStart => exact ⟨0, by omega, by omega, rfl, Below.refl _ _⟩
  case round =>
    obtain ⟨j, hj, hjg, rfl, HW⟩ := hrel
    by_cases hlt : j < L.length
    · obtain ⟨bb, off, ha, hbl, hrow⟩ := HA.out.at_ (fun e => by rw [e] at hlt; simp at hlt)
      obtain ⟨bb2, off2, hb, hbl2, hrow2⟩ := HB.out.at_ (fun e => by rw [e] at hlt; simp at hlt)
      subst ha hb
      have hlm : j < mv.length := by rw [HA.out.len]; exact hlt
      have hlm2 : j < mu.length := by rw [HB.out.len]; exact hlt
      obtain ⟨c1, c2, hms⟩ := hrow j _ _ (List.getElem?_eq_getElem hlt) (List.getElem?_eq_getElem hlm)
      obtain ⟨e1, e2, hms2⟩ := hrow2 j _ _ (List.getElem?_eq_getElem hlt) (List.getElem?_eq_getElem hlm2)
      rw [← HW.out.cell hbl] at c1 c2
      rw [← HW.out.cell hbl2] at e1 e2
      have hm32 := HM.out _ (List.getElem_mem hlt)
      generalize L[j]'hlt = x at *
      generalize mv[j]'hlm = u at *
      generalize mu[j]'hlm2 = u2 at *
      obtain ⟨am, cm, rfl, hr⟩ := hms
      obtain ⟨am2, cm2, rfl, hr2⟩ := hms2
      have HR := Lib.hid hr
      have HR2 := Lib.hid hr2
      have t1 : (x.name.toList != x.name.toList) = false := by simp
      have t2 : ((x.mems.length : Int) != (x.mems.length : Int)) = false := by simp
      have hml : (x.mems.length : Int) ≤ 140737488351232 := by omega
      clear hrow hrow2 hlm hlm2 hr hr2 hm32
      go_wp2_with fail
      go_quiet (fail)
      have hbd : ∀ n, Below w.heap.size w (wr.drewN n) := fun n => blw_drewN HW.out n
      have HCs := Lib.hid (show ∀ w', Below w.heap.size w w' → w'.cell? ⟨bb, off + j * 2 + 1, none⟩ = some (.slice am x.mems.length cm) ∧ w'.cell? ⟨bb2, off2 + j * 2 + 1, none⟩ = some (.slice am2 x.mems.length cm2) from fun w' hb => by
        have h2 := c2
        have h3 := e2
        rw [HW.out.cell hbl] at h2
        rw [HW.out.cell hbl2] at h3
        rw [hb.cell hbl, hb.cell hbl2]
        exact ⟨h2, h3⟩)
      generalize hw3 : wr.drewN _ = w3
      have HW3 := Lib.hid (show Below w.heap.size w w3 by rw [← hw3]; exact hbd _)
      obtain ⟨c2', _⟩ := HCs.out _ HW3.out
      clear hw3 hbd t1 t2 c1 c2 e1 e2
      go_wp2_with fail
      clear c2'
      have hjl : (j : Int) < (L.length : Int) := by omega
      go_loopg [49] x.mems.length (fun g v49 wy => ∃ (i : Nat), i ≤ x.mems.length ∧ i + g = x.mems.length ∧ v49 = .int .i64 (i : Int) ∧ Hid (Below w.heap.size w wy))
      case atStart => exact ⟨0, by omega, by omega, rfl, HW3.out⟩
      case round =>
        obtain ⟨i, hi, hig, rfl, HW4⟩ := hrel
        by_cases hil : i < x.mems.length
        · obtain ⟨mb, moff, ha, hmb, hmrow⟩ := HR.out (fun e => by rw [e] at hil; simp at hil)
          obtain ⟨mb2, moff2, hb, hmb2, hmrow2⟩ := HR2.out (fun e => by rw [e] at hil; simp at hil)
          subst ha hb
          obtain ⟨k1, k2⟩ := hmrow i _ (List.getElem?_eq_getElem hil)
          obtain ⟨l1, l2⟩ := hmrow2 i _ (List.getElem?_eq_getElem hil)
          rw [← HW4.out.cell hmb] at k1 k2
          rw [← HW4.out.cell hmb2] at l1 l2
          obtain ⟨c2, e2⟩ := HCs.out _ HW4.out
          have hil2 : (i : Int) < (x.mems.length : Int) := by omega
          generalize x.mems[i]'hil = m at *
          obtain ⟨mn, mt⟩ := m
          simp only at k1 k2 l1 l2
          have q1 : (mn.toList == mn.toList) = true := by simp
          have q2 : (mt.toList == mt.toList) = true := by simp
          have q3 : (mn.toList != mn.toList) = false := by simp
          have q4 : (mt.toList != mt.toList) = false := by simp
          clear hmrow hmrow2
          go_wp2_with fail
          go_quiet (fail)
          go_wp2_with fail
          go_roundg (x.mems.length - (i + 1))
          case measure => omega
          case rel => exact ⟨i + 1, by omega, by omega, by rw [Int.natCast_add]; rfl, blw_drewN HW4.out _⟩
        · obtain rfl : i = x.mems.length := by omega
          have t3 : (x.mems.length : Int) ≤ (x.mems.length : Int) := Int.le_refl _
          go_wp2_with fail
          go_roundg (L.length - (j + 1))
          case measure => omega
          case rel => exact ⟨j + 1, by omega, by omega, by rw [Int.natCast_add]; rfl, HW4.out⟩
    · obtain rfl : j = L.length := by omega
      have t3 : (L.length : Int) ≤ (L.length : Int) := Int.le_refl _
      go_wp2_with fail
      go_ret
      exact ⟨rfl, HW.out⟩
end Go.Proofs.YtmmjmppfmjejkaaGreatDoor
