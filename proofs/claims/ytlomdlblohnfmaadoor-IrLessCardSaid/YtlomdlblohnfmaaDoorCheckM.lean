/- What is wrong with a program. · What is wrong with any program. -/
import Derived.Test.YtlomdlblohnfmaaDoorIrPr
import Derived.Test.YtlomdlblohnfmaaDoorIrGlobal2
import Derived.Test.YtlomdlblohnfmaaDoorIrFunc2
import Derived.Laws.EntriesVeiled
namespace Go.Proofs.YtlomdlblohnfmaaDoor
open Go.RowKit Go.Shelf

attribute [local go_sem] Oper.semAt_some

theorem MapI.kept {w w' : World} {b n : Nat} {f : ByteArray → Int × Bool} {row : Option Nat} (h : MapI w b n f) (hg : w.grownBy w' row) (hne : some b ≠ row) : MapI w' b n f := by
  obtain ⟨D, hD, hv⟩ := h
  exact ⟨D, hD.kept hg (by simpa using hne), hv⟩
theorem MapI.lt {w : World} {b n : Nat} {f : ByteArray → Int × Bool} (h : MapI w b n f) : b < w.heap.size := by
  obtain ⟨D, hD, _⟩ := h
  obtain ⟨_, _, hb, _⟩ := hD
  exact lt_of_heap hb
/-- the map that is laid by rounds -/
def layI {α : Type} (nm : α → ByteArray) (pre : List (α × Nat)) : ByteArray → Int × Bool := pre.foldl (fun f x => fun t => if t = nm x.1 then ((x.2 : Int), true) else f t) (fun _ => (0, false))
theorem layI_snoc {α : Type} (nm : α → ByteArray) (pre : List (α × Nat)) (x : α × Nat) : layI nm (pre ++ [x]) = fun t => if t = nm x.1 then ((x.2 : Int), true) else layI nm pre t := by
  unfold layI
  rw [List.foldl_append]
  rfl
theorem layI_late {α : Type} (nm : α → ByteArray) (Q : List α) : ∀ (k m : Nat), m + k = Q.length → layI nm ((backL Q).take (Q.length - m)) = lateI (Q.map nm) m
  | 0, m, h => by
    have : m = Q.length := by omega
    subst this
    rw [Nat.sub_self, List.take_zero]
    funext s
    have := lateI_none (Q.map nm) s
    rw [List.length_map] at this
    rw [this]
    rfl
  | k + 1, m, h => by
    have hm : m < Q.length := by omega
    have ih := layI_late nm Q k (m + 1) (by omega)
    rw [backL_next hm, layI_snoc, ih]
    funext s
    have hn := lateI_next (L := Q.map nm) (k := m) (by rw [List.length_map]; exact hm) s
    rw [hn, List.getElem_map]
theorem layI_all {α : Type} (nm : α → ByteArray) (Q : List α) : layI nm (backL Q) = firstI (Q.map nm) := by
  have := layI_late nm Q Q.length 0 (by omega)
  rw [Nat.sub_zero, List.take_of_length_le (by rw [backL_len]; exact Nat.le_refl _)] at this
  rw [this]
  funext s
  exact lateI_all _ s
theorem KeepC.grown {W W' : World} {row : Option Nat} (hg : W.grownBy W' row) (hr : ∀ r, row = some r → ∃ o : Obj, W.heap[r]? = some o ∧ o.isCells = false) : KeepC W W' :=
  ⟨hg.os, hg.tape, hg.output, hg.size, fun k o ho hc => (hg.block k (lt_of_heap ho) (fun e => by
    obtain ⟨o2, h2, h3⟩ := hr k e.symm
    rw [ho] at h2
    have := Option.some.inj h2
    subst this
    rw [hc] at h3; cases h3)).trans ho⟩
/-- what holds ahead of a round that lays a name into map m; the other map m2 -/
structure LayInv (w W5 W : World) (n0 m m2 : Nat) (n2 : Nat) (f2 : ByteArray → Int × Bool) (n : Nat) (f : ByteArray → Int × Bool) : Prop where
  lay : MapI W m n f
  oth : MapI W m2 n2 f2
  keep : KeepC W5 W
  below : Below n0 w W
theorem layInv_own {β : Type} {w W5 : World} {n0 m m2 n2 B : Nat} {f2 : ByteArray → Int × Bool} {n : β → Nat} {f : β → ByteArray → Int × Bool} (h1 : m < B) (h2 : m2 < B) (h3 : n0 ≤ B) (h4 : n0 ≤ W5.heap.size) : OwnFrom B (fun (s : β) W => LayInv w W5 W n0 m m2 n2 f2 (n s) (f s)) := by
  intro s W W' row h hg hr
  have hne : ∀ q, q < B → some q ≠ row := fun q hq e => by have := (hr q e.symm).1; omega
  exact ⟨h.lay.kept hg (hne _ h1), h.oth.kept hg (hne _ h2), h.keep.trans (KeepC.grown hg (fun r e => (hr r e).2)), h.below.grown hg (Nat.le_trans h4 h.keep.size) (fun k hk => by have := (hr k hk).1; omega)⟩
theorem LayInv.on {w W5 W W' : World} {n0 m m2 n2 : Nat} {f2 : ByteArray → Int × Bool} {n : Nat} {f : ByteArray → Int × Bool} (h : LayInv w W5 W n0 m m2 n2 f2 n f) (h0 : n0 ≤ w.heap.size) (hb : Below W.heap.size W W') : LayInv w W5 W' n0 m m2 n2 f2 n f :=
  ⟨h.lay.below hb, h.oth.below hb, h.keep.trans (KeepC.of_below hb), h.below.trans (hb.mono (Nat.le_trans h0 h.below.size))⟩
theorem i64_wf {n : Nat} (h : n < 4294967296) : (Lit.int .i64 (n : Int)).wf = true := by
  have h1 : IntKind.i64.min = -9223372036854775808 := by decide
  have h2 : IntKind.i64.max = 9223372036854775807 := by decide
  rw [Lit.wf, h1, h2, Bool.and_eq_true, decide_eq_true_iff, decide_eq_true_iff]
  omega
/-- a name laid: what it leaves -/
theorem layInv_turned {w W5 W W' : World} {n0 m m2 n2 : Nat} {f2 : ByteArray → Int × Bool} {n n' : Nat} {f f' : ByteArray → Int × Bool} (h : LayInv w W5 W n0 m m2 n2 f2 n f) (hM : MapI W' m n' f') (ht : W.mapTurned W' m) (hne : m2 ≠ m) (hm : m < W5.heap.size) (h5 : n0 ≤ W5.heap.size) (hmn : n0 ≤ m) :
    KeepsFrom W5.heap.size W W' ∧ KeepC W W' ∧ LayInv w W5 W' n0 m m2 n2 f2 n' f' := by
  have hg := ht.grown
  obtain ⟨es, clock, es', clock', hb, _⟩ := ht
  have hk : KeepC W _ := KeepC.grown hg (fun r e => by cases e; exact ⟨_, hb, rfl⟩)
  exact ⟨KeepsFrom.of_grownBy hg (fun j e => by cases e; exact hm), hk, hM, h.oth.kept hg (fun e => hne (Option.some.inj e)), h.keep.trans hk, h.below.grown hg (Nat.le_trans h5 h.keep.size) (fun k e => by cases e; exact hmn)⟩
theorem turned_other {W W' : World} {m D : Nat} {o : Obj} (ht : W.mapTurned W' m) (hne : D ≠ m) (h : W.heap[D]? = some o) : W'.heap[D]? = some o := by
  have hg := ht.grown
  exact (hg.block D (lt_of_heap h) (fun e => hne (Option.some.inj e))).trans h
/-- what stands when the ranges begin -/
structure ChkAt (w W : World) (n0 : Nat) (gv sv fv : Value) : Prop where
  base : w.heap.size = n0
  below : Below w.heap.size w W
  xb : W.heap[n0]? = some (.cells #[gv, sv, fv] 26 (0, 0))
  pb : W.heap[n0 + 1 + 1 + 1 + 1]? = some (.cells #[gv, sv, fv, .map (some (n0 + 1 + 1)), .map (some (n0 + 1 + 1 + 1))] 70 (0, 0))
  rb : W.heap[n0 + 1]? = some (.cells #[.int .i64 0, .int .i64 0] 30 (0, 0))
theorem chk_start (w : World) (gv sv fv bv : Value) (T : TypeId) :
    ChkAt w ((((((w.alloc (.cells #[gv, sv, fv] 26)).alloc (.cells #[.int .i64 0, .int .i64 0] 30)).alloc (.map #[] 0)).alloc (.map #[] 0)).alloc (.cells #[gv, sv, fv, .map (some (w.heap.size + 1 + 1)), .map (some (w.heap.size + 1 + 1 + 1))] 70)).alloc (.cells #[bv] T)) w.heap.size gv sv fv ∧
    MapI ((((((w.alloc (.cells #[gv, sv, fv] 26)).alloc (.cells #[.int .i64 0, .int .i64 0] 30)).alloc (.map #[] 0)).alloc (.map #[] 0)).alloc (.cells #[gv, sv, fv, .map (some (w.heap.size + 1 + 1)), .map (some (w.heap.size + 1 + 1 + 1))] 70)).alloc (.cells #[bv] T)) (w.heap.size + 1 + 1) 0 (fun _ => (0, false)) ∧
    MapI ((((((w.alloc (.cells #[gv, sv, fv] 26)).alloc (.cells #[.int .i64 0, .int .i64 0] 30)).alloc (.map #[] 0)).alloc (.map #[] 0)).alloc (.cells #[gv, sv, fv, .map (some (w.heap.size + 1 + 1)), .map (some (w.heap.size + 1 + 1 + 1))] 70)).alloc (.cells #[bv] T)) (w.heap.size + 1 + 1 + 1) 0 (fun _ => (0, false)) ∧
    ((((((w.alloc (.cells #[gv, sv, fv] 26)).alloc (.cells #[.int .i64 0, .int .i64 0] 30)).alloc (.map #[] 0)).alloc (.map #[] 0)).alloc (.cells #[gv, sv, fv, .map (some (w.heap.size + 1 + 1)), .map (some (w.heap.size + 1 + 1 + 1))] 70)).alloc (.cells #[bv] T)).cell? ⟨w.heap.size + 1 + 1 + 1 + 1 + 1, 0, none⟩ = some bv := by
  have bl : ∀ (v : World) (o : Obj), Below v.heap.size v (v.alloc o) := fun v o => (Below.refl _ _).alloc (Nat.le_refl _) _
  have nw : ∀ (v : World) (o : Obj), (v.alloc o).heap[v.heap.size]? = some o := fun v o => heap_alloc_new v o
  have sz : ∀ (v : World) (o : Obj), (v.alloc o).heap.size = v.heap.size + 1 := fun v o => by simp
  generalize h1 : w.alloc (.cells #[gv, sv, fv] 26) = w1
  have n1 := nw w (.cells #[gv, sv, fv] 26)
  have b1 := bl w (.cells #[gv, sv, fv] 26)
  have s1 := sz w (.cells #[gv, sv, fv] 26)
  rw [h1] at n1 b1 s1
  generalize h2 : w1.alloc (.cells #[.int .i64 0, .int .i64 0] 30) = w2
  have n2 := nw w1 (.cells #[.int .i64 0, .int .i64 0] 30)
  have b2 := bl w1 (.cells #[.int .i64 0, .int .i64 0] 30)
  have s2 := sz w1 (.cells #[.int .i64 0, .int .i64 0] 30)
  rw [h2] at n2 b2 s2
  generalize h3 : w2.alloc (.map #[] 0) = w3
  have n3 : MapI w3 w2.heap.size 0 (fun _ => (0, false)) := by rw [← h3]; exact mapI_nil
  have b3 := bl w2 (.map #[] 0)
  have s3 := sz w2 (.map #[] 0)
  rw [h3] at b3 s3
  generalize h4 : w3.alloc (.map #[] 0) = w4
  have n4 : MapI w4 w3.heap.size 0 (fun _ => (0, false)) := by rw [← h4]; exact mapI_nil
  have b4 := bl w3 (.map #[] 0)
  have s4 := sz w3 (.map #[] 0)
  rw [h4] at b4 s4
  generalize h5 : w4.alloc (.cells #[gv, sv, fv, .map (some (w.heap.size + 1 + 1)), .map (some (w.heap.size + 1 + 1 + 1))] 70) = w5
  have n5 := nw w4 (.cells #[gv, sv, fv, .map (some (w.heap.size + 1 + 1)), .map (some (w.heap.size + 1 + 1 + 1))] 70)
  have b5 := bl w4 (.cells #[gv, sv, fv, .map (some (w.heap.size + 1 + 1)), .map (some (w.heap.size + 1 + 1 + 1))] 70)
  have s5 := sz w4 (.cells #[gv, sv, fv, .map (some (w.heap.size + 1 + 1)), .map (some (w.heap.size + 1 + 1 + 1))] 70)
  rw [h5] at n5 b5 s5
  generalize h6 : w5.alloc (.cells #[bv] T) = w6
  have n6 := nw w5 (.cells #[bv] T)
  have b6 := bl w5 (.cells #[bv] T)
  rw [h6] at n6 b6
  have e1 : w1.heap.size = w.heap.size + 1 := s1
  have e2 : w2.heap.size = w.heap.size + 1 + 1 := by omega
  have e3 : w3.heap.size = w.heap.size + 1 + 1 + 1 := by omega
  have e4 : w4.heap.size = w.heap.size + 1 + 1 + 1 + 1 := by omega
  have e5 : w5.heap.size = w.heap.size + 1 + 1 + 1 + 1 + 1 := by omega
  have c46 := b5.trans (b6.mono (by omega : w4.heap.size ≤ w5.heap.size))
  have c36 := b4.trans (c46.mono (by omega : w3.heap.size ≤ w4.heap.size))
  have c26 := b3.trans (c36.mono (by omega : w2.heap.size ≤ w3.heap.size))
  have c16 := b2.trans (c26.mono (by omega : w1.heap.size ≤ w2.heap.size))
  have c06 := b1.trans (c16.mono (by omega : w.heap.size ≤ w1.heap.size))
  rw [e1] at n2
  rw [e2] at n3
  rw [e3] at n4
  rw [e4] at n5
  rw [e5] at n6
  refine ⟨⟨rfl, c06, ?_, ?_, ?_⟩, n3.below c36, n4.below c46, ?_⟩
  · rw [c16.block _ (by omega)]; exact n1
  · rw [b6.block _ (by omega)]; exact n5
  · rw [c26.block _ (by omega)]; exact n2
  · unfold World.cell?
    simp only [n6]
    rfl
theorem KeepC.xb {W W' : World} (h : KeepC W W') {b : Nat} {vs : Array Value} {T : TypeId} (hb : W.heap[b]? = some (.cells vs T (0, 0))) : W'.heap[b]? = some (.cells vs T (0, 0)) := h.block b _ hb rfl
theorem three_cells {w : World} {b : Nat} {v0 v1 v2 : Value} {T : TypeId} (h : w.heap[b]? = some (.cells #[v0, v1, v2] T (0, 0))) : w.cell? ⟨b, 0, none⟩ = some v0 ∧ w.cell? ⟨b, 1, none⟩ = some v1 ∧ w.cell? ⟨b, 2, none⟩ = some v2 := by
  refine ⟨?_, ?_, ?_⟩ <;> simp [World.cell?, h]
/-- what stands when the loops begin -/
structure ChkEnd (w V : World) (n0 : Nat) (gv sv fv : Value) (nG nF : Nat) (fG fF : ByteArray → Int × Bool) : Prop where
  at0 : ChkAt w V n0 gv sv fv
  mg : MapI V (n0 + 1 + 1) nG fG
  mf : MapI V (n0 + 1 + 1 + 1) nF fF
theorem chk_end {w W V : World} {n0 : Nat} {gv sv fv : Value} {nG nF : Nat} {fG fF : ByteArray → Int × Bool} (h : ChkAt w W n0 gv sv fv) (hk : KeepC W V) (hb : Below w.heap.size w V) (hF : MapI V (n0 + 1 + 1 + 1) nF fF) (hG : MapI V (n0 + 1 + 1) nG fG) : ChkEnd w V n0 gv sv fv nG nF fG fF :=
  ⟨⟨h.base, hb, hk.xb h.xb, hk.xb h.pb, hk.xb h.rb⟩, hG, hF⟩
theorem ChkEnd.below {w V V' : World} {n0 : Nat} {gv sv fv : Value} {nG nF : Nat} {fG fF : ByteArray → Int × Bool} (h : ChkEnd w V n0 gv sv fv nG nF fG fF) (hw : w.heap.size ≤ V.heap.size) (hb : Below V.heap.size V V') : ChkEnd w V' n0 gv sv fv nG nF fG fF :=
  ⟨⟨h.at0.base, h.at0.below.trans (hb.mono hw), (hb.block _ (lt_of_heap h.at0.xb)).trans h.at0.xb, (hb.block _ (lt_of_heap h.at0.pb)).trans h.at0.pb, (hb.block _ (lt_of_heap h.at0.rb)).trans h.at0.rb⟩, h.mg.below hb, h.mf.below hb⟩
theorem firstBad_from {α : Type} {bad : Nat → α → Bool} : ∀ (L : List α) (s i : Nat) (hi : i < L.length), (∀ k (hk : k < L.length), k < i → bad (s + k) L[k] = false) → bad (s + i) L[i] = true → firstBad bad s L = some (s + i)
  | [], _, _, hi, _, _ => absurd hi (Nat.not_lt_zero _)
  | x :: r, s, 0, _, _, hb => by
    unfold firstBad
    rw [if_pos (by simpa using hb)]
    rfl
  | x :: r, s, i + 1, hi, hg, hb => by
    unfold firstBad
    rw [if_neg (by have := hg 0 (by simp) (by omega); simpa using this), firstBad_from r (s + 1) i (by simpa using hi) (fun k hk hki => by
      have := hg (k + 1) (by simpa using hk) (by omega)
      rw [show s + (k + 1) = s + 1 + k by omega] at this
      simpa using this) (by
      rw [show s + (i + 1) = s + 1 + i by omega] at hb
      simpa using hb)]
    congr 1; omega
theorem firstBad_none {α : Type} {bad : Nat → α → Bool} : ∀ (L : List α) (s : Nat), (∀ k (hk : k < L.length), bad (s + k) L[k] = false) → firstBad bad s L = none
  | [], _, _ => rfl
  | x :: r, s, hg => by
    unfold firstBad
    rw [if_neg (by have := hg 0 (by simp); simpa using this)]
    exact firstBad_none r (s + 1) (fun k hk => by
      have := hg (k + 1) (by simpa using hk)
      rw [show s + (k + 1) = s + 1 + k by omega] at this
      simpa using this)
theorem firstBad_at {α : Type} {bad : Nat → α → Bool} {L : List α} {i : Nat} (hi : i < L.length) (hg : ∀ k (hk : k < L.length), k < i → bad k L[k] = false) (hb : bad i L[i] = true) : firstBad bad 0 L = some i := by
  have := firstBad_from (bad := bad) L 0 i hi (fun k hk h => by rw [Nat.zero_add]; exact hg k hk h) (by rw [Nat.zero_add]; exact hb)
  rwa [Nat.zero_add] at this
theorem chk_leave {w V : World} {n0 D D2 : Nat} {i c : Int} {tmps : Array Value} (_hn : n0 = w.heap.size) (hb : Below w.heap.size w V) (hr : V.heap[n0 + 1]? = some (.cells #[.int .i64 i, .int .i64 c] 30 (0, 0)))
    (h2 : V.heap[D2]? = some (.deferred (some []))) (h1 : V.heap[D]? = some (.deferred (some []))) (hD : w.heap.size ≤ D) (hD2 : w.heap.size ≤ D2) (hne : D ≠ D2) (ht : tmps[2]? = some (.pointer (some ⟨n0 + 1, 0, none⟩))) :
    LeavesInM Fence.wide 5 Tryd.prog Tryd.f6 tmps (fun e w' => e = .returned (.agg #[.int .i64 i, .int .i64 c]) ∧ Below w.heap.size w w') [{ target := .collected D2, args := #[] }, { target := .collected D, args := #[] }] .returning V := by
  have h1' : (V.putObj D2 (.deferred none)).heap[D]? = some (.deferred (some [])) := by rw [World.putObj_heap_other hne]; exact h1
  refine ⟨by simp, .inl ⟨_, _, rfl, run_takeDeferred h2, ?_⟩⟩
  refine ⟨by simp, .inl ⟨_, _, rfl, run_takeDeferred h1', ?_⟩⟩
  have hD1 : D ≠ n0 + 1 := fun e => by subst e; rw [hr] at h1; cases h1
  have hD3 : D2 ≠ n0 + 1 := fun e => by subst e; rw [hr] at h2; cases h2
  have hr' : ((V.putObj D2 (.deferred none)).putObj D (.deferred none)).heap[n0 + 1]? = some (.cells #[.int .i64 i, .int .i64 c] 30 (0, 0)) := by
    rw [World.putObj_heap_other hD1.symm, World.putObj_heap_other hD3.symm]; exact hr
  have hc0 : ((V.putObj D2 (.deferred none)).putObj D (.deferred none)).cell? ⟨n0 + 1, 0, none⟩ = some (.int .i64 i) := by simp [World.cell?, hr']
  have hc1 : ((V.putObj D2 (.deferred none)).putObj D (.deferred none)).cell? ⟨n0 + 1, 1, none⟩ = some (.int .i64 c) := by simp [World.cell?, hr']
  refine ⟨.agg #[.int .i64 i, .int .i64 c], by simp [results, Tryd.results6, go_sem, ht, hc0, hc1], rfl, ?_⟩
  exact (hb.trans (belowK_b (w := w) (Nat.le_refl _) V D2 _ _ hD2 h2 rfl rfl)).trans (belowK_b (w := w) (Nat.le_refl _) _ D _ _ hD h1' rfl rfl)
theorem fault_set {W : World} {b : Nat} {T : TypeId} (h : W.heap[b]? = some (.cells #[.int .i64 0, .int .i64 0] T (0, 0))) (i c : Int) : ((W.setCell ⟨b, 0, none⟩ (.int .i64 i)).setCell ⟨b, 1, none⟩ (.int .i64 c)).heap[b]? = some (.cells #[.int .i64 i, .int .i64 c] T (0, 0)) := by
  have h1 := heap_setCell_same W b 0 _ _ (.int .i64 i) h
  exact heap_setCell_same _ b 1 _ _ (.int .i64 c) h1
theorem fault_cells {W : World} {b : Nat} {T : TypeId} {v0 v1 : Value} (h : W.heap[b]? = some (.cells #[v0, v1] T (0, 0))) : W.cell? ⟨b, 0, none⟩ = some v0 ∧ W.cell? ⟨b, 1, none⟩ = some v1 ∧ W.frozen? ⟨b, 0, none⟩ = false ∧ W.frozen? ⟨b, 1, none⟩ = false := by
  refine ⟨?_, ?_, ?_, ?_⟩ <;> simp [World.cell?, World.frozen?, h]
theorem chk_ret {w V W1 : World} {D D2 : Nat} {i c : Int} {p : Int × Int} {tmps : Array Value} {gv sv fv : Value} {nG nF : Nat} {fG fF : ByteArray → Int × Bool} (hE : ChkEnd w V w.heap.size gv sv fv nG nF fG fF) (hb1 : Below V.heap.size V W1)
    (h1 : V.heap[D]? = some (.deferred (some []))) (h2 : V.heap[D2]? = some (.deferred (some []))) (hD : w.heap.size ≤ D) (hD2 : w.heap.size ≤ D2) (hne : D ≠ D2) (ht : tmps[2]? = some (.pointer (some ⟨w.heap.size + 1, 0, none⟩))) (hp : p = (i, c)) :
    LeavesInM Fence.wide 5 Tryd.prog Tryd.f6 tmps (fun e w' => e = .returned (.agg #[.int .i64 p.1, .int .i64 p.2]) ∧ Below w.heap.size w w') [{ target := .collected D2, args := #[] }, { target := .collected D, args := #[] }] .returning
      ((W1.setCell ⟨w.heap.size + 1, 0, none⟩ (.int .i64 i)).setCell ⟨w.heap.size + 1, 1, none⟩ (.int .i64 c)) := by
  subst hp
  have hE1 := hE.below hE.at0.below.size hb1
  have dn : ∀ d, V.heap[d]? = some (Obj.deferred (some [])) → ((W1.setCell ⟨w.heap.size + 1, 0, none⟩ (.int .i64 i)).setCell ⟨w.heap.size + 1, 1, none⟩ (.int .i64 c)).heap[d]? = some (Obj.deferred (some [])) := fun d h => by
    have hd : d ≠ w.heap.size + 1 := fun e => by subst e; rw [hE.at0.rb] at h; cases h
    rw [heap_setCell_other _ _ _ _ hd, heap_setCell_other _ _ _ _ hd, hb1.block d (lt_of_heap h)]
    exact h
  exact chk_leave rfl ((hE1.at0.below.setCell (Nat.le_succ _) _).setCell (Nat.le_succ _) _) (fault_set hE1.at0.rb i c) (dn D2 h2) (dn D h1) hD hD2 hne ht
theorem checkP_global {x : IrP} {i : Nat} (h0 : ¬ (256 < x.globals.length ∨ 4096 < x.strings.length ∨ 128 < x.funcs.length)) (h : firstBad (fun i g => !globalOk (firstI (x.globals.map IrG.name)) (firstI (x.funcs.map IrF.name)) x.strings.length i g) 0 x.globals = some i) : checkP x = (((i : Nat) : Int), 180) := by
  unfold checkP
  rw [if_neg h0]
  dsimp only
  rw [h]
theorem checkP_string {x : IrP} {i : Nat} (h0 : ¬ (256 < x.globals.length ∨ 4096 < x.strings.length ∨ 128 < x.funcs.length)) (h : firstBad (fun i g => !globalOk (firstI (x.globals.map IrG.name)) (firstI (x.funcs.map IrF.name)) x.strings.length i g) 0 x.globals = none)
    (h2 : firstBad (fun _ s => decide (4096 < s.size)) 0 x.strings = some i) : checkP x = (((i : Nat) : Int), 3) := by
  unfold checkP
  rw [if_neg h0]
  dsimp only
  rw [h]
  dsimp only
  rw [h2]
def badFn (x : IrP) (fG fF : ByteArray → Int × Bool) (i : Nat) (f : IrF) : Bool := !(funcI f x.strings.length) || decide ((fF f.name).1 ≠ (i : Nat)) || !(namedI fG fF f)
theorem checkP_func {x : IrP} (h0 : ¬ (256 < x.globals.length ∨ 4096 < x.strings.length ∨ 128 < x.funcs.length)) (h : firstBad (fun i g => !globalOk (firstI (x.globals.map IrG.name)) (firstI (x.funcs.map IrF.name)) x.strings.length i g) 0 x.globals = none)
    (h2 : firstBad (fun _ s => decide (4096 < s.size)) 0 x.strings = none) : (∀ i, firstBad (badFn x (firstI (x.globals.map IrG.name)) (firstI (x.funcs.map IrF.name))) 0 x.funcs = some i → checkP x = (((i : Nat) : Int), 180)) ∧
      (firstBad (badFn x (firstI (x.globals.map IrG.name)) (firstI (x.funcs.map IrF.name))) 0 x.funcs = none → checkP x = (0, 0)) := by
  unfold checkP
  rw [if_neg h0]
  dsimp only
  rw [h]
  dsimp only
  rw [h2]
  dsimp only
  exact ⟨fun i h3 => by unfold badFn at h3; rw [h3], fun h3 => by unfold badFn at h3; rw [h3]⟩
set_option maxRecDepth 100000 in
set_option maxHeartbeats 8000000 in
theorem check_fit (x : IrP) (gv sv fv : Value) (w : World) (hK : KeysAt w) (hP : IsPr w.heap.size w x gv sv fv) (hg : x.globals.length ≤ 256) (hs : x.strings.length ≤ 4096) (hf : x.funcs.length ≤ 128) :
    Calls Tryd.prog 6 #[.agg #[gv, sv, fv]] w fun e w' => e = .returned (.agg #[.int .i64 (checkP x).1, .int .i64 (checkP x).2]) ∧ Below w.heap.size w w' := by
  have hdd : ∀ k : Nat, (Fence.wide.depth.isSome = true → 1 ≤ k) := fun k h => by cases h
  obtain ⟨⟨ag, cg, Qg, rfl, hog, hQg, hsg, hqg⟩, ⟨as1, cs, rfl, hos, hss⟩, ⟨af, cf, Qf, rfl, hof, hQf, hsf, hqf⟩⟩ := hP
  have t1 : (x.globals.length : Int) ≤ 256 := by omega
  have t2 : (x.strings.length : Int) ≤ 4096 := by omega
  have t3 : (x.funcs.length : Int) ≤ 128 := by omega
  have hfit : ¬ (256 < x.globals.length ∨ 4096 < x.strings.length ∨ 128 < x.funcs.length) := by omega
  have hmk : ∀ w : World, (Instr.makeMap 68 none).run Tryd.prog w = .ok (.map (some w.heap.size)) (w.alloc (.map #[] 0)) := fun w => by kernel_rfl
  refine (callsIn_wide (n := 5)).1 ?_
  refine callsIn_of_wp_marks Tryd.func6 rfl trivial ?_ rfl
  simp only [Tryd.ntmps6, List.size_toArray, List.length_cons, List.length_nil, Nat.reduceAdd, Nat.reduceSub, Array.replicate_succ, Array.replicate_zero, List.push_toArray, List.append_toArray, List.nil_append, List.cons_append]
  gi_wp2_with ((first | refine ⟨trivial, hdd _, ?_⟩ | refine ⟨trivial, ?_⟩); gi_at_call 18; refine (back_gl _ _ _ _ _).mono ?_; rintro e W1 ⟨rfl, hW1⟩; subst W1)
  obtain ⟨hC0, hm1, hm2, hbs⟩ := chk_start w (.slice ag x.globals.length cg) (.slice as1 x.strings.length cs) (.slice af x.funcs.length cf) (.slice ag x.globals.length cg) 22
  generalize World.alloc _ (.cells #[.slice ag x.globals.length cg] _) = W5 at *
  obtain ⟨Q1, hQ1⟩ : ∃ Q1 : List (ByteArray × Value × Int × Value), Q1 = Qg.map (fun q => (q.1.name, q.2.1, q.1.align, q.2.2)) := ⟨_, rfl⟩
  have hl1 : Q1.length = x.globals.length := by rw [hQ1, List.length_map, ← hQg, List.length_map]
  have hs1 : IsSl 4 glbCells w.heap.size w ag Q1 := by rw [hQ1]; exact sl_map _ (fun q => rfl) hsg
  have hsh1 : ∀ q ∈ Q1, SlVgl q := fun q hq => by
    rw [hQ1, List.mem_map] at hq
    obtain ⟨q0, hq0, rfl⟩ := hq
    obtain ⟨_, ⟨a1, c1, e1, _⟩, ⟨a2, c2, e2, _⟩⟩ := hqg q0 hq0
    exact ⟨⟨a1, _, c1, e1⟩, ⟨a2, _, c2, e2⟩⟩
  have hnm1 : ∀ q ∈ Q1, q.1.size ≤ maxLen := fun q hq => by
    rw [hQ1, List.mem_map] at hq
    obtain ⟨q0, hq0, rfl⟩ := hq
    exact (hqg q0 hq0).1
  rw [← hl1] at hbs ⊢
  have hz1 : Q1.length * 72 ≤ 140737488351232 := by rw [hl1]; exact hog.1
  have HC0 := Lib.hid hC0
  have HQ1 := Lib.hid hQ1
  have HL1 := Lib.hid hl1
  have hq1 : Q1.length ≤ 256 := by omega
  clear hQ1
  have hsz5 : w.heap.size + 1 + 1 + 1 + 1 + 1 < W5.heap.size := World.block_lt_of_cell? W5 _ hbs
  clear hl1 hg
  have hst := backStops_gl (5 - 1) (w.heap.size + 1 + 1 + 1 + 1 + 1) w.heap.size ag cg Q1 hz1 W5 hbs (hs1.below hC0.below (Nat.le_refl _)) hsh1
  refine wpIn_rangeFunc_ownH (n := 5) rfl (by decide) (gf := 36) (lb := #[.pointer (some ⟨w.heap.size + 1 + 1 + 1 + 1 + 1, 0, none⟩)]) rfl trivial (enters_of Tryd.func36 (by kernel_rfl) rfl) hst keepC_t keepC_b (Below.refl _ _) (fun _ => rfl)
    (fun (pre : List (El Q1)) W => LayInv w W5 W w.heap.size (w.heap.size + 1 + 1) (w.heap.size + 1 + 1 + 1) 0 (fun _ => (0, false)) pre.length (layI (fun q => q.1) (pre.map Subtype.val)))
    (fun _ _ _ => False)
    (layInv_own (by omega) (by omega) (by omega) (by omega))
    (fun _ _ _ _ _ hs _ _ => hs)
    ⟨hm1, hm2, KeepC.refl _, hC0.below⟩
    (fun y a' W => ∃ bx : Nat, a' = { tmps := #[.agg #[.slice ag Q1.length cg, .slice as1 x.strings.length cs, .slice af x.funcs.length cf], .pointer (some ⟨w.heap.size, 0, none⟩), .pointer (some ⟨w.heap.size + 1, 0, none⟩), .pointer (some ⟨w.heap.size + 1 + 1 + 1 + 1, 0, none⟩), .int .i64 (y.1.2 : Int), .pointer (some ⟨bx, 0, none⟩), undef, undef, undef, undef, undef, undef, undef, .pointer (some ⟨w.heap.size, 0, none⟩), .slice ag Q1.length cg, .int .i64 (Q1.length : Int), .bool (decide (256 < (Q1.length : Int))), .bool (decide (256 < (Q1.length : Int))), .pointer (some ⟨w.heap.size, 1, none⟩), .slice as1 x.strings.length cs, .int .i64 (x.strings.length : Int), .bool (decide (4096 < (x.strings.length : Int))), .bool (decide (256 < (Q1.length : Int)) || decide (4096 < (x.strings.length : Int))), .bool (decide (256 < (Q1.length : Int)) || decide (4096 < (x.strings.length : Int))), .pointer (some ⟨w.heap.size, 2, none⟩), .slice af x.funcs.length cf, .int .i64 (x.funcs.length : Int), .bool (decide (128 < (x.funcs.length : Int))), .bool (decide (256 < (Q1.length : Int)) || decide (4096 < (x.strings.length : Int)) || decide (128 < (x.funcs.length : Int))), undef, .agg #[.slice ag Q1.length cg, .slice as1 x.strings.length cs, .slice af x.funcs.length cf], .map (some (w.heap.size + 1 + 1)), .map (some (w.heap.size + 1 + 1 + 1)), .agg #[.slice ag Q1.length cg, .slice as1 x.strings.length cs, .slice af x.funcs.length cf, .map (some (w.heap.size + 1 + 1)), .map (some (w.heap.size + 1 + 1 + 1))], .pointer (some ⟨w.heap.size, 0, none⟩), .slice ag Q1.length cg, .func (.func 36) #[] #[.pointer (some ⟨w.heap.size + 1 + 1 + 1 + 1 + 1, 0, none⟩)], .int .i64 (y.1.2 : Int), .agg #[.string y.1.1.1, y.1.1.2.1, .int .i64 y.1.1.2.2.1, y.1.1.2.2.2], undef, undef, undef, undef, undef, undef, undef, undef, undef, undef, undef, undef, undef, undef, undef, undef, undef, undef, undef, undef, undef, undef, undef, undef, undef, undef, undef, undef, undef, undef, undef, undef, undef, undef, undef, undef, undef, undef, undef, undef, undef, undef, undef, undef, undef, undef, undef, undef, undef, undef, undef, undef, undef, undef, undef, undef, undef, undef, undef, undef, undef, undef, undef, undef, undef, undef, undef, undef, undef, undef, undef, undef, undef, undef, undef], defers := [] } ∧ W.cell? ⟨bx, 0, none⟩ = some (.string y.1.1.1))
    (fun x a' _ W W' row hs hg hr => by
      obtain ⟨bx, e, hc⟩ := hs
      exact ⟨bx, e, cell_kept hc hg (fun r e => (hr r e).2)⟩) ?assign ?body ?done ?stop
  case assign =>
    intro l pre y W K hI hK
    dsimp only [glE]
    obtain ⟨⟨⟨nm, v1, al, v2⟩, m⟩, hy⟩ := y
    obtain ⟨hm, hq⟩ := backL_of hy
    dsimp only at hm hq
    obtain ⟨⟨s1, n1, k1, e1⟩, ⟨s2, n2, k2, e2⟩⟩ := hsh1 _ (hq ▸ List.getElem_mem hm)
    dsimp only at e1 e2
    subst e1 e2
    dsimp only
    gi_wp2
    have ho := heap_alloc_new W (.cells #[.string nm, .slice s1 n1 k1, .int .i64 al, .slice s2 n2 k2] 50)
    have hc0 : (W.alloc (.cells #[.string nm, .slice s1 n1 k1, .int .i64 al, .slice s2 n2 k2] 50)).cell? ⟨W.heap.size, 0, none⟩ = some (.string nm) := by
      unfold World.cell?
      simp only [ho]
      rfl
    have hbw : Below W.heap.size W (W.alloc (.cells #[.string nm, .slice s1 n1 k1, .int .i64 al, .slice s2 n2 k2] 50)) := (Below.refl _ _).alloc (Nat.le_refl _) _
    exact hK _ _ ((KeepsOthers.alloc _ _).from _) (KeepC.of_below hbw) (hI.on (Nat.le_refl _) hbw) ⟨_, rfl, hc0⟩
  case body =>
    rintro l pre ⟨⟨⟨nm, v1, al, v2⟩, m⟩, hy⟩ a' W hl hr hI ⟨bx, rfl, hc0⟩ hlen
    obtain ⟨hm, hq⟩ := backL_of hy
    dsimp only at hm hq hc0
    dsimp only
    have hmL : m < 4294967296 := by omega
    obtain ⟨W', hup, hM', ht⟩ := hI.lay.store (v := (m : Int)) (by have : maxLen = 9223372036854775807 := rfl; omega) (hnm1 _ (hq ▸ List.getElem_mem hm)) (i64_wf hmL)
    have p3 : W.cell? ⟨w.heap.size + 1 + 1 + 1 + 1, 3, none⟩ = some (.map (some (w.heap.size + 1 + 1))) := hI.keep.cell (by
      have := HC0.out.pb
      unfold World.cell?
      simp only [this]
      rfl)
    have HEnd := Lib.hid (layInv_turned hI hM' ht (by omega) (by omega) (by omega) (by omega))
    clear hM' ht hq
    gi_wp2
    obtain ⟨k1, k2, k3⟩ := HEnd.out
    exact ⟨k1, k2, by rw [List.length_append]; exact k3.lay.same (fun t => by rw [List.map_append]; exact (congrFun (layI_snoc (fun q : ByteArray × Value × Int × Value => q.1) (pre.map Subtype.val) ((nm, v1, al, v2), m)) t).symm), k3.oth, k3.keep, k3.below⟩
  case done =>
    intro D xs W hD hxs hI hdf
    have hIl := hI.lay
    rw [hxs] at hIl
    have hxl : xs.length = Q1.length := by
      have := congrArg List.length hxs
      rwa [List.length_map, backL_len] at this
    rw [hxl] at hIl
    replace hIl := hIl.same (fun t => congrFun (layI_all (fun q : ByteArray × Value × Int × Value => q.1) Q1) t)
    have hx := hI.keep.xb HC0.out.xb
    obtain ⟨x0, x1, x2⟩ := three_cells hx
    have hIo := hI.oth
    have hIb := hI.below
    have hIk := hI.keep
    clear hI hxs hxl
    obtain ⟨W6, hW6⟩ : ∃ W6, W6 = W.alloc (.cells #[.slice af x.funcs.length cf] 24) := ⟨_, rfl⟩
    have hbs6 : W6.cell? ⟨W.heap.size, 0, none⟩ = some (.slice af x.funcs.length cf) := by
      rw [hW6]
      unfold World.cell?
      simp only [heap_alloc_new]
      rfl
    have HW6 := Lib.hid hW6
    clear hW6
    gi_wp2_with ((first | refine ⟨trivial, hdd _, ?_⟩ | refine ⟨trivial, ?_⟩); gi_at_call 19; refine (back_fn _ _ _ _ _).mono ?_; rintro e W1 ⟨rfl, hW1⟩; rw [← HW6.out] at hW1; subst W1)
    have hbw6 : Below W.heap.size W W6 := by rw [HW6.out]; exact (Below.refl _ _).alloc (Nat.le_refl _) _
    have hI6 : LayInv w W6 W6 w.heap.size (w.heap.size + 1 + 1 + 1) (w.heap.size + 1 + 1) Q1.length (firstI (Q1.map fun q => q.1)) 0 (fun _ => (0, false)) := ⟨hIo.below hbw6, hIl.below hbw6, KeepC.refl _, hIb.trans (hbw6.mono hIb.size)⟩
    have hk6 := hIk.trans (KeepC.of_below hbw6)
    have HK6 := Lib.hid hk6
    have hdl : D < W6.heap.size := by have := lt_of_heap hdf; have := hbw6.size; omega
    have hdf6 : W6.heap[D]? = some (.deferred (some [])) := (hbw6.block D (lt_of_heap hdf)).trans hdf
    have hlq : Qf.length = x.funcs.length := by rw [← hQf, List.length_map]
    have hzf : Qf.length * 80 ≤ 140737488351232 := by rw [hlq]; exact hof.1
    have hshf : ∀ q ∈ Qf, SlVfn q := fun q hq => by
      obtain ⟨a1, k1, e1, _⟩ := (hqf q hq).slots
      obtain ⟨a2, k2, _, e2, _⟩ := (hqf q hq).blocks
      exact ⟨⟨a1, _, k1, e1⟩, ⟨a2, _, k2, e2⟩⟩
    have hnmf : ∀ q ∈ Qf, q.1.name.size ≤ maxLen := fun q hq => (hqf q hq).name
    rw [← hlq] at hbs6
    have hsz6 : W.heap.size < W6.heap.size := World.block_lt_of_cell? W6 _ hbs6
    have hsz56 := hIk.size
    have hqf1 : Qf.length ≤ 128 := by omega
    have HLq := Lib.hid hlq
    have HQf := Lib.hid hQf
    have hst6 := backStops_fn (5 - 1) W.heap.size w.heap.size af cf Qf hzf W6 hbs6 (hsf.below (hIb.trans (hbw6.mono hIb.size)) (Nat.le_refl _)) hshf
    clear hIl hIo hIb hIk hlq hQf hx x0 x1 x2 hdf hbw6
    refine wpIn_rangeFunc_ownH (n := 5) rfl (by decide) (gf := 37) (lb := #[.pointer (some ⟨W.heap.size, 0, none⟩)]) rfl trivial (enters_of Tryd.func37 (by kernel_rfl) rfl) hst6 keepC_t keepC_b (Below.refl _ _) (fun _ => rfl)
      (fun (pre : List (El Qf)) V => LayInv w W6 V w.heap.size (w.heap.size + 1 + 1 + 1) (w.heap.size + 1 + 1) Q1.length (firstI (Q1.map fun q : ByteArray × Value × Int × Value => q.1)) pre.length (layI (fun q : IrF × Value × Value => q.1.name) (pre.map Subtype.val)) ∧ V.heap[D]? = some (.deferred (some [])))
      (fun _ _ _ => False)
      (OwnFrom.and (layInv_own (by omega) (by omega) (by omega) (by omega)) (fun _ A B row hs hg hr => (hg.block D (lt_of_heap hs) (fun e => by have := (hr D e.symm).1; omega)).trans hs))
      (fun _ _ _ _ _ hs _ _ => hs)
      ⟨hI6, hdf6⟩
      (fun y a' V => ∃ bx : Nat, a' = { tmps := #[.agg #[.slice ag Q1.length cg, .slice as1 x.strings.length cs, .slice af x.funcs.length cf], .pointer (some ⟨w.heap.size, 0, none⟩), .pointer (some ⟨w.heap.size + 1, 0, none⟩), .pointer (some ⟨w.heap.size + 1 + 1 + 1 + 1, 0, none⟩), undef, undef, .int .i64 (y.1.2 : Int), .pointer (some ⟨bx, 0, none⟩), undef, undef, undef, undef, undef, .pointer (some ⟨w.heap.size, 0, none⟩), .slice ag Q1.length cg, .int .i64 (Q1.length : Int), .bool (decide (256 < (Q1.length : Int))), .bool (decide (256 < (Q1.length : Int))), .pointer (some ⟨w.heap.size, 1, none⟩), .slice as1 x.strings.length cs, .int .i64 (x.strings.length : Int), .bool (decide (4096 < (x.strings.length : Int))), .bool (decide (256 < (Q1.length : Int)) || decide (4096 < (x.strings.length : Int))), .bool (decide (256 < (Q1.length : Int)) || decide (4096 < (x.strings.length : Int))), .pointer (some ⟨w.heap.size, 2, none⟩), .slice af x.funcs.length cf, .int .i64 (x.funcs.length : Int), .bool (decide (128 < (x.funcs.length : Int))), .bool (decide (256 < (Q1.length : Int)) || decide (4096 < (x.strings.length : Int)) || decide (128 < (x.funcs.length : Int))), undef, .agg #[.slice ag Q1.length cg, .slice as1 x.strings.length cs, .slice af x.funcs.length cf], .map (some (w.heap.size + 1 + 1)), .map (some (w.heap.size + 1 + 1 + 1)), .agg #[.slice ag Q1.length cg, .slice as1 x.strings.length cs, .slice af x.funcs.length cf, .map (some (w.heap.size + 1 + 1)), .map (some (w.heap.size + 1 + 1 + 1))], .pointer (some ⟨w.heap.size, 0, none⟩), .slice ag Q1.length cg, .func (.func 36) #[] #[.pointer (some ⟨w.heap.size + 1 + 1 + 1 + 1 + 1, 0, none⟩)], undef, undef, undef, undef, undef, undef, undef, .pointer (some ⟨w.heap.size, 2, none⟩), .slice af x.funcs.length cf, .func (.func 37) #[] #[.pointer (some ⟨W.heap.size, 0, none⟩)], .int .i64 (y.1.2 : Int), .agg #[.string y.1.1.1.name, .int .i64 y.1.1.1.params, .int .i64 y.1.1.1.regs, y.1.1.2.1, y.1.1.2.2], undef, undef, undef, undef, undef, undef, undef, undef, undef, undef, undef, undef, undef, undef, undef, undef, undef, undef, undef, undef, undef, undef, undef, undef, undef, undef, undef, undef, undef, undef, undef, undef, undef, undef, undef, undef, undef, undef, undef, undef, undef, undef, undef, undef, undef, undef, undef, undef, undef, undef, undef, undef, undef, undef, undef, undef, undef, undef, undef, undef, undef, undef, undef, undef, undef], defers := [] } ∧ V.cell? ⟨bx, 0, none⟩ = some (.string y.1.1.1.name))
      (fun y a' _ V V' row hs hg hr => by
        obtain ⟨bx, e, hc⟩ := hs
        exact ⟨bx, e, cell_kept hc hg (fun r e => (hr r e).2)⟩) ?assign2 ?body2 ?done2 ?stop2
    case assign2 =>
      intro l pre y V K hI hK
      dsimp only [fnE]
      obtain ⟨⟨⟨f, v1, v2⟩, m⟩, hy⟩ := y
      obtain ⟨hm, hq⟩ := backL_of hy
      dsimp only at hm hq
      obtain ⟨⟨s1, n1, k1, e1⟩, ⟨s2, n2, k2, e2⟩⟩ := hshf _ (hq ▸ List.getElem_mem hm)
      dsimp only at e1 e2
      subst e1 e2
      clear hq
      dsimp only
      gi_wp2
      have ho := heap_alloc_new V (.cells #[.string f.name, .int .i64 f.params, .int .i64 f.regs, .slice s1 n1 k1, .slice s2 n2 k2] 35)
      have hc0 : (V.alloc (.cells #[.string f.name, .int .i64 f.params, .int .i64 f.regs, .slice s1 n1 k1, .slice s2 n2 k2] 35)).cell? ⟨V.heap.size, 0, none⟩ = some (.string f.name) := by
        unfold World.cell?
        simp only [ho]
        rfl
      have hbw : Below V.heap.size V (V.alloc (.cells #[.string f.name, .int .i64 f.params, .int .i64 f.regs, .slice s1 n1 k1, .slice s2 n2 k2] 35)) := (Below.refl _ _).alloc (Nat.le_refl _) _
      exact hK _ _ ((KeepsOthers.alloc _ _).from _) (KeepC.of_below hbw) ⟨hI.1.on (Nat.le_refl _) hbw, (hbw.block D (lt_of_heap hI.2)).trans hI.2⟩ ⟨_, rfl, hc0⟩
    case body2 =>
      rintro l pre ⟨⟨⟨f, v1, v2⟩, m⟩, hy⟩ a' V hl hr hI ⟨bx, rfl, hc0⟩ hlen
      obtain ⟨hm, hq⟩ := backL_of hy
      dsimp only at hm hq hc0
      dsimp only
      have hmL : m < 4294967296 := by omega
      obtain ⟨V', hup, hM', ht⟩ := hI.1.lay.store (v := (m : Int)) (by have : maxLen = 9223372036854775807 := rfl; omega) (hnmf _ (hq ▸ List.getElem_mem hm)) (i64_wf hmL)
      have p3 : V.cell? ⟨w.heap.size + 1 + 1 + 1 + 1, 4, none⟩ = some (.map (some (w.heap.size + 1 + 1 + 1))) := (HK6.out.trans hI.1.keep).cell (by
        have := HC0.out.pb
        unfold World.cell?
        simp only [this]
        rfl)
      have HEnd := Lib.hid (layInv_turned hI.1 hM' ht (by omega) (by omega) (by omega) (by omega))
      have HDf := Lib.hid (turned_other ht (by omega) hI.2)
      clear hM' ht hq
      gi_wp2
      obtain ⟨k1, k2, k3⟩ := HEnd.out
      exact ⟨k1, k2, ⟨by rw [List.length_append]; exact k3.lay.same (fun t => by rw [List.map_append]; exact (congrFun (layI_snoc (fun q : IrF × Value × Value => q.1.name) (pre.map Subtype.val) ((f, v1, v2), m)) t).symm), k3.oth, k3.keep, k3.below⟩, HDf.out⟩
    case done2 =>
      intro D2 ys V hD2 hys hI hdf2
      have hIl := hI.1.lay
      rw [hys] at hIl
      have hyl : ys.length = Qf.length := by
        have := congrArg List.length hys
        rwa [List.length_map, backL_len] at this
      rw [hyl] at hIl
      replace hIl := hIl.same (fun t => congrFun (layI_all (fun q : IrF × Value × Value => q.1.name) Qf) t)
      have hk7 := HK6.out.trans hI.1.keep
      have HEx := Lib.hid (chk_end HC0.out hk7 hI.1.below hIl hI.1.oth)
      have HDf1 := Lib.hid hI.2
      have HDf2 := Lib.hid hdf2
      clear hIl hI hys hyl hdf2 hk7
      have hG0 : Q1.map (fun q => q.1) = x.globals.map IrG.name := by rw [HQ1.out, ← hQg, List.map_map, List.map_map]; rfl
      have hF0 : Qf.map (fun q => q.1.name) = x.funcs.map IrF.name := by rw [← HQf.out, List.map_map]; rfl
      rw [hG0, hF0] at HEx
      have hVs := HEx.out.at0.below.size
      obtain ⟨x0, x1, x2⟩ := three_cells HEx.out.at0.xb
      have HPr := Lib.hid (show ∀ V', Below V.heap.size V V' → IsGls V'.heap.size V' (.slice ag x.globals.length cg) x.globals from fun V' h => by
        have hb := HEx.out.at0.below.trans (h.mono hVs)
        exact (IsGls.below ⟨ag, cg, Qg, rfl, hog, hQg, hsg, hqg⟩ hb (Nat.le_refl _)).mono hb.size)
      obtain ⟨fG, hfG⟩ : ∃ f, f = firstI (x.globals.map IrG.name) := ⟨_, rfl⟩
      obtain ⟨fF, hfF⟩ : ∃ f, f = firstI (x.funcs.map IrF.name) := ⟨_, rfl⟩
      rw [← hfG, ← hfF] at HEx
      clear hG0 hF0 hst6 hst hshf hnmf hI6 hk6
      gi_wp2
      gi_loopw [57] (fun v57 wr => ∃ i : Nat, i ≤ x.globals.length ∧ v57 = .int .i64 (i : Int) ∧ Hid (∀ k (hk : k < x.globals.length), k < i → globalOk fG fF (x.strings.length : Nat) (k : Nat) x.globals[k] = true) ∧ Hid (Below V.heap.size V wr)) (fun v57 _ => x.globals.length - (intOf v57).toNat)
      case atStart => exact ⟨0, by omega, rfl, Lib.hid (fun k _ h => by omega), Lib.hid (Below.refl _ _)⟩
      case round =>
        obtain ⟨i, hi, rfl, HGd, HB⟩ := hrel
        have HEw := Lib.hid (HEx.out.below hVs HB.out)
        obtain ⟨x0, x1, x2⟩ := three_cells HEw.out.at0.xb
        by_cases hlt : i < x.globals.length
        · have hglo := global_okI x.globals i hlt (.slice ag x.globals.length cg) as1 x.strings.length cs (.slice af x.funcs.length cf) ⟨_, _, _, rfl⟩ (w.heap.size + 1 + 1) (w.heap.size + 1 + 1 + 1) _ _ fG fF wr (hK.below HEw.out.at0.below) (HPr.out _ HB.out) HEw.out.mg HEw.out.mf (by omega)
          have hlt2 : (i : Int) < (x.globals.length : Int) := by omega
          obtain ⟨y0, y1, y2, y3, y4⟩ := prAt_new HEw.out.at0.pb
          unfold progV at hglo
          have hsz := HEw.out.at0.below.size
          cases hgb : globalOk fG fF (x.strings.length : Nat) (i : Nat) x.globals[i] with
          | false =>
            rw [hgb] at hglo
            have HGlo := Lib.hid hglo
            have hcp := Lib.hid (checkP_global hfit (firstBad_at hlt (fun k hk h => by rw [← hfG, ← hfF, HGd.out k hk h]; rfl) (by rw [← hfG, ← hfF, hgb]; rfl)))
            clear hglo
            gi_wp2_with ((first | refine ⟨trivial, hdd _, ?_⟩ | refine ⟨trivial, ?_⟩); gi_at_call 20; refine (callsIn_wide.2 HGlo.out).mono ?_; rintro e W1 ⟨rfl, hW1⟩; have HW1 := Lib.hid hW1; obtain ⟨r0, r1, r2, r3⟩ := fault_cells (HEw.out.below hsz hW1).at0.rb; clear hW1)
            exact chk_ret HEx.out (HB.out.trans (HW1.out.mono HB.out.size)) HDf1.out HDf2.out (by omega) (by omega) (by omega) rfl hcp.out
          | true =>
            rw [hgb] at hglo
            have HGlo := Lib.hid hglo
            have HGd2 := Lib.hid (show ∀ k (hk : k < x.globals.length), k < i + 1 → globalOk fG fF (x.strings.length : Nat) (k : Nat) x.globals[k] = true from fun k hk h => by
              rcases Nat.lt_or_ge k i with h' | h'
              · exact HGd.out k hk h'
              · obtain rfl : k = i := by omega
                exact hgb)
            clear hglo
            gi_wp2_with ((first | refine ⟨trivial, hdd _, ?_⟩ | refine ⟨trivial, ?_⟩); gi_at_call 20; refine (callsIn_wide.2 HGlo.out).mono ?_; rintro e W1 ⟨rfl, hW1⟩; have HW1 := Lib.hid hW1; clear hW1)
            go_roundw
            case rel => exact ⟨i + 1, by omega, by rw [Int.natCast_add]; rfl, HGd2, Lib.hid (HB.out.trans (HW1.out.mono HB.out.size))⟩
            case measure => simp [intOf]; omega
        · obtain rfl : i = x.globals.length := by omega
          have hi2 : (x.globals.length : Int) ≤ (x.globals.length : Int) := Int.le_refl _
          have HNg := Lib.hid (firstBad_none (bad := fun i g => !globalOk fG fF x.strings.length i g) x.globals 0 (fun k hk => by rw [Nat.zero_add, HGd.out k hk hk]; rfl))
          clear hlt
          gi_wp2
          gi_loopw [70] (fun v70 wy => ∃ i : Nat, i ≤ x.strings.length ∧ v70 = .int .i64 (i : Int) ∧ Hid (∀ k (hk : k < x.strings.length), k < i → x.strings[k].size ≤ 4096) ∧ wy = wr) (fun v70 _ => x.strings.length - (intOf v70).toNat)
          case atStart => exact ⟨0, by omega, rfl, Lib.hid (fun k _ h => by omega), rfl⟩
          case round =>
            obtain ⟨i, hi, rfl, HSd, hwr⟩ := hrel
            subst hwr
            by_cases hlt : i < x.strings.length
            · have hlt2 : (i : Int) < (x.strings.length : Int) := by omega
              obtain ⟨bs, off, rfl, hbl, hrow⟩ := (hss.below HEw.out.at0.below (Nat.le_refl _)) (fun e => by rw [e] at hlt; simp at hlt)
              have e0 := hrow i _ (List.getElem?_eq_getElem hlt) 0 _ rfl
              simp only [Nat.mul_one, Nat.add_zero] at e0
              obtain ⟨r0, r1, r2, r3⟩ := fault_cells HEw.out.at0.rb
              by_cases hsz : x.strings[i].size ≤ 4096
              · have HSd2 := Lib.hid (show ∀ k (hk : k < x.strings.length), k < i + 1 → x.strings[k].size ≤ 4096 from fun k hk h => by
                  rcases Nat.lt_or_ge k i with h' | h'
                  · exact HSd.out k hk h'
                  · obtain rfl : k = i := by omega
                    exact hsz)
                generalize x.strings[i] = s at *
                have hs4 : (s.size : Int) ≤ 4096 := by omega
                gi_wp2
                go_roundw
                case rel => exact ⟨i + 1, by omega, by rw [Int.natCast_add]; rfl, HSd2, by trivial⟩
                case measure => simp [intOf]; omega
              · have hcp := Lib.hid (checkP_string hfit (by rw [← hfG, ← hfF]; exact HNg.out) (firstBad_at hlt (fun k hk h => by have := HSd.out k hk h; simpa using this) (by simpa using hsz)))
                generalize x.strings[i] = s at *
                have hs4 : (4096 : Int) < (s.size : Int) := by omega
                gi_wp2
                exact chk_ret HEx.out HB.out HDf1.out HDf2.out (by omega) (by omega) (by omega) rfl hcp.out
            · obtain rfl : i = x.strings.length := by omega
              have hi3 : (x.strings.length : Int) ≤ (x.strings.length : Int) := Int.le_refl _
              have HNs := Lib.hid (firstBad_none (bad := fun _ (s : ByteArray) => decide (4096 < s.size)) x.strings 0 (fun k hk => by have := HSd.out k hk hk; simpa using this))
              have HCp := Lib.hid (checkP_func hfit (by rw [← hfG, ← hfF]; exact HNg.out) HNs.out)
              rw [← hfG, ← hfF] at HCp
              clear hlt
              gi_wp2
              gi_loopw [84] (fun v84 wy => ∃ i : Nat, i ≤ x.funcs.length ∧ v84 = .int .i64 (i : Int) ∧ Hid (∀ k (hk : k < x.funcs.length), k < i → badFn x fG fF k x.funcs[k] = false) ∧ Hid (Below V.heap.size V wy)) (fun v84 _ => x.funcs.length - (intOf v84).toNat)
              case atStart => exact ⟨0, by omega, rfl, Lib.hid (fun k _ h => by omega), HB⟩
              case round =>
                clear HEw HB x0 x1 x2
                obtain ⟨i, hi, rfl, HFd, HB⟩ := hrel
                have HEw := Lib.hid (HEx.out.below hVs HB.out)
                have hsz := HEw.out.at0.below.size
                obtain ⟨x0, x1, x2⟩ := three_cells HEw.out.at0.xb
                obtain ⟨r0, r1, r2, r3⟩ := fault_cells HEw.out.at0.rb
                by_cases hlt : i < x.funcs.length
                · have hlt2 : (i : Int) < (x.funcs.length : Int) := by omega
                  have hlq : i < Qf.length := by rw [HLq.out]; exact hlt
                  obtain ⟨bs, off, rfl, hbl, hrow⟩ := (hsf.below HEw.out.at0.below (Nat.le_refl _)) (fun e => by rw [e] at hlq; simp at hlq)
                  have hqb := Lib.hid (show Qf[i].1 = x.funcs[i] by
                    have h1 : (Qf.map Prod.fst)[i]? = x.funcs[i]? := by rw [HQf.out]
                    rw [List.getElem?_map, List.getElem?_eq_getElem hlq, List.getElem?_eq_getElem hlt] at h1
                    exact Option.some.inj h1)
                  have e0 := hrow i _ (List.getElem?_eq_getElem hlq) 0 _ rfl
                  have e1 := hrow i _ (List.getElem?_eq_getElem hlq) 1 _ rfl
                  have e2 := hrow i _ (List.getElem?_eq_getElem hlq) 2 _ rfl
                  have e3 := hrow i _ (List.getElem?_eq_getElem hlq) 3 _ rfl
                  have e4 := hrow i _ (List.getElem?_eq_getElem hlq) 4 _ rfl
                  simp only [Nat.add_zero] at e0
                  have hF := hqf _ (List.getElem_mem hlq)
                  have HGd2 := Lib.hid (fun (hb : badFn x fG fF i x.funcs[i] = false) => show ∀ k (hk : k < x.funcs.length), k < i + 1 → badFn x fG fF k x.funcs[k] = false from fun k hk h => by
                    rcases Nat.lt_or_ge k i with h' | h'
                    · exact HFd.out k hk h'
                    · obtain rfl : k = i := by omega
                      exact hb)
                  have HBd := Lib.hid (fun (hb : badFn x fG fF i x.funcs[i] = true) => HCp.out.1 i (firstBad_at hlt (fun k hk h => HFd.out k hk h) hb))
                  rw [← hqb.out] at HGd2 HBd
                  clear hrow hqb
                  generalize Qf[i]'hlq = q at *
                  obtain ⟨f, v1, v2⟩ := q
                  simp only at e0 e1 e2 e3 e4 hF HGd2 HBd
                  have hnm := hF.name
                  obtain ⟨s1, k1, e5, _⟩ := hF.slots
                  obtain ⟨s2, k2, _, e6, _⟩ := hF.blocks
                  subst e5 e6
                  have HF4 := Lib.hid (fun V' (h : Below wr.heap.size wr V') => (hF.below (HEw.out.at0.below.trans (h.mono hsz)) (Nat.le_refl _)).mono (Nat.le_trans hsz h.size))
                  have HK4 := Lib.hid (fun V' (h : Below wr.heap.size wr V') => hK.below (HEw.out.at0.below.trans (h.mono hsz)))
                  have HX4 := Lib.hid (fn_cells (heap_alloc_new wr (.cells #[.string f.name, .int .i64 f.params, .int .i64 f.regs, .slice s1 f.slots.length k1, .slice s2 f.blocks.length k2] 35)))
                  have HB4 := Lib.hid (show Below wr.heap.size wr (wr.alloc (.cells #[.string f.name, .int .i64 f.params, .int .i64 f.regs, .slice s1 f.slots.length k1, .slice s2 f.blocks.length k2] 35)) from (Below.refl _ _).alloc (Nat.le_refl _) _)
                  have HFn := Lib.hid (func_ok f (.slice s1 f.slots.length k1) (.slice s2 f.blocks.length k2) (x.strings.length : Nat) (wr.alloc (.cells #[.string f.name, .int .i64 f.params, .int .i64 f.regs, .slice s1 f.slots.length k1, .slice s2 f.blocks.length k2] 35)) (HK4.out _ HB4.out) (HF4.out _ HB4.out))
                  have HNm := Lib.hid (fun V' (h : Below wr.heap.size wr V') => named_ok (.slice ag x.globals.length cg) (.slice as1 x.strings.length cs) (.slice (some ⟨bs, off, none⟩) x.funcs.length cf) ⟨_, _, _, rfl⟩ ⟨_, _, _, rfl⟩ ⟨_, _, _, rfl⟩ (w.heap.size + 1 + 1) (w.heap.size + 1 + 1 + 1) _ _ fG fF f (.slice s1 f.slots.length k1) (.slice s2 f.blocks.length k2) V' (HEw.out.below hsz h).mg (HEw.out.below hsz h).mf (HF4.out V' h))
                  have HLk := Lib.hid (fun V' (h : Below wr.heap.size wr V') => (HEw.out.below hsz h).mf.look hnm)
                  obtain ⟨z0, z1, z2⟩ := three_cells (HEw.out.below hsz HB4.out).at0.xb
                  obtain ⟨g0, g1, g2, g3, g4⟩ := HX4.out _ (Below.refl _ _)
                  unfold fnV at HFn HNm
                  unfold progV at HNm
                  obtain ⟨b1, hb1⟩ : ∃ b, b = funcI f (x.strings.length : Nat) := ⟨_, rfl⟩
                  obtain ⟨n1, hn1⟩ : ∃ n, n = (fF f.name).1 := ⟨_, rfl⟩
                  obtain ⟨b2, hb2⟩ : ∃ b, b = namedI fG fF f := ⟨_, rfl⟩
                  have HBf := Lib.hid (show badFn x fG fF i f = (!b1 || decide (n1 ≠ (i : Nat)) || !b2) by rw [hb1, hn1, hb2]; rfl)
                  rw [← hb1] at HFn
                  rw [← hn1] at HLk
                  rw [← hb2] at HNm
                  clear hF hnm hb1 hn1 hb2 hlt hlq
                  cases b1 with
                  | false =>
                    have hcp := Lib.hid (HBd.out (by rw [HBf.out]; rfl))
                    gi_wp2_with ((first | refine ⟨trivial, hdd _, ?_⟩ | refine ⟨trivial, ?_⟩); gi_at_call 21; refine (callsIn_wide.2 HFn.out).mono ?_; rintro e W1 ⟨rfl, hW1⟩; have HW1 := Lib.hid (HB4.out.trans (hW1.mono HB4.out.size)); clear r0 r1 r2 r3; obtain ⟨r0, r1, r2, r3⟩ := fault_cells (HEw.out.below hsz HW1.out).at0.rb; clear hW1)
                    refine ⟨trivial, ?_⟩
                    gi_wp2
                    exact chk_ret HEx.out (HB.out.trans (HW1.out.mono HB.out.size)) HDf1.out HDf2.out (by omega) (by omega) (by omega) rfl hcp.out
                  | true =>
                    by_cases hni : n1 = (i : Nat)
                    · cases b2 with
                      | false =>
                        have hcp := Lib.hid (HBd.out (by rw [HBf.out]; simp))
                        subst hni
                        gi_wp2_with ((first | refine ⟨trivial, hdd _, ?_⟩ | refine ⟨trivial, ?_⟩); first
                          | (gi_at_call 21; refine (callsIn_wide.2 HFn.out).mono ?_; rintro e W1 ⟨rfl, hW1⟩; have HW1 := Lib.hid (HB4.out.trans (hW1.mono HB4.out.size)); clear g0 g1 g2 g3 g4; obtain ⟨g0, g1, g2, g3, g4⟩ := HX4.out _ hW1; obtain ⟨y0, y1, y2, y3, y4⟩ := prAt_new (HEw.out.below hsz HW1.out).at0.pb; have hlk := HLk.out _ HW1.out; clear hW1)
                          | (gi_at_call 22; refine (callsIn_wide.2 (HNm.out _ HW1.out)).mono ?_; rintro e W2 ⟨rfl, hW2⟩; have HW2 := Lib.hid (HW1.out.trans (hW2.mono HW1.out.size)); clear r0 r1 r2 r3 g0 g1 g2 g3 g4 y0 y1 y2 y3 y4 hlk; obtain ⟨r0, r1, r2, r3⟩ := fault_cells (HEw.out.below hsz HW2.out).at0.rb; clear hW2))
                        exact chk_ret HEx.out (HB.out.trans (HW2.out.mono HB.out.size)) HDf1.out HDf2.out (by omega) (by omega) (by omega) rfl hcp.out
                      | true =>
                        have HGd3 := Lib.hid (HGd2.out (by rw [HBf.out]; simp [hni]))
                        subst hni
                        gi_wp2_with ((first | refine ⟨trivial, hdd _, ?_⟩ | refine ⟨trivial, ?_⟩); first
                          | (gi_at_call 21; refine (callsIn_wide.2 HFn.out).mono ?_; rintro e W1 ⟨rfl, hW1⟩; have HW1 := Lib.hid (HB4.out.trans (hW1.mono HB4.out.size)); clear g0 g1 g2 g3 g4; obtain ⟨g0, g1, g2, g3, g4⟩ := HX4.out _ hW1; obtain ⟨y0, y1, y2, y3, y4⟩ := prAt_new (HEw.out.below hsz HW1.out).at0.pb; have hlk := HLk.out _ HW1.out; clear hW1)
                          | (gi_at_call 22; refine (callsIn_wide.2 (HNm.out _ HW1.out)).mono ?_; rintro e W2 ⟨rfl, hW2⟩; have HW2 := Lib.hid (HW1.out.trans (hW2.mono HW1.out.size)); clear hW2))
                        go_roundw
                        case rel => exact ⟨i + 1, by omega, by rw [Int.natCast_add]; rfl, HGd3, Lib.hid (HB.out.trans (HW2.out.mono HB.out.size))⟩
                        case measure => simp [intOf]; omega
                    · have hcp := Lib.hid (HBd.out (by rw [HBf.out]; simp [hni]))
                      have hni2 : (n1 != (i : Int)) = true := by simpa using hni
                      gi_wp2_with ((first | refine ⟨trivial, hdd _, ?_⟩ | refine ⟨trivial, ?_⟩); gi_at_call 21; refine (callsIn_wide.2 HFn.out).mono ?_; rintro e W1 ⟨rfl, hW1⟩; have HW1 := Lib.hid (HB4.out.trans (hW1.mono HB4.out.size)); clear g0 g1 g2 g3 g4; obtain ⟨g0, g1, g2, g3, g4⟩ := HX4.out _ hW1; obtain ⟨y0, y1, y2, y3, y4⟩ := prAt_new (HEw.out.below hsz HW1.out).at0.pb; have hlk := HLk.out _ HW1.out; clear r0 r1 r2 r3; obtain ⟨r0, r1, r2, r3⟩ := fault_cells (HEw.out.below hsz HW1.out).at0.rb; clear hW1)
                      refine ⟨trivial, ?_⟩
                      gi_wp2
                      exact chk_ret HEx.out (HB.out.trans (HW1.out.mono HB.out.size)) HDf1.out HDf2.out (by omega) (by omega) (by omega) rfl hcp.out
                · obtain rfl : i = x.funcs.length := by omega
                  have hi4 : (x.funcs.length : Int) ≤ (x.funcs.length : Int) := Int.le_refl _
                  have hcp := Lib.hid (HCp.out.2 (firstBad_none x.funcs 0 (fun k hk => by rw [Nat.zero_add]; exact HFd.out k hk hk)))
                  clear hlt
                  gi_wp2
                  exact chk_ret HEx.out HB.out HDf1.out HDf2.out (by omega) (by omega) (by omega) rfl hcp.out
    case stop2 =>
      rintro D c pre W _ _ h _
      exact h.elim
  case stop =>
    rintro D c pre W _ _ h _
    exact h.elim
end Go.Proofs.YtlomdlblohnfmaaDoor
namespace Go.Proofs.YtlomdlblohnfmaaDoor
open Go.RowKit Go.Shelf

attribute [local go_sem] Oper.semAt_some

set_option maxRecDepth 100000 in
set_option maxHeartbeats 4000000 in
theorem check_unfit (x : IrP) (gv sv fv : Value) (w : World) (hP : IsPr w.heap.size w x gv sv fv) (h : 256 < x.globals.length ∨ 4096 < x.strings.length ∨ 128 < x.funcs.length) :
    Calls Tryd.prog 6 #[.agg #[gv, sv, fv]] w fun e w' => e = .returned (.agg #[.int .i64 0, .int .i64 3]) ∧ Below w.heap.size w w' := by
  obtain ⟨⟨ag, cg, Qg, rfl, _⟩, ⟨as1, cs, rfl, _⟩, ⟨af, cf, Qf, rfl, _⟩⟩ := hP
  obtain ⟨hx1, hba⟩ := two_new w (.cells #[.slice ag x.globals.length cg, .slice as1 x.strings.length cs, .slice af x.funcs.length cf] 26) (.cells #[.int .i64 0, .int .i64 0] 30)
  have hx0 := ir_new1 w (.cells #[.slice ag x.globals.length cg, .slice as1 x.strings.length cs, .slice af x.funcs.length cf] 26) (.cells #[.int .i64 0, .int .i64 0] 30)
  have hEnd : ∀ W tmps, tmps[2]? = some (Value.pointer (some ⟨w.heap.size + 1, 0, none⟩)) → W = ((w.alloc (.cells #[.slice ag x.globals.length cg, .slice as1 x.strings.length cs, .slice af x.funcs.length cf] 26)).alloc (.cells #[.int .i64 0, .int .i64 3] 30)) →
      LeavesInM Fence.wide 5 Tryd.prog Tryd.f6 tmps (fun e w' => e = .returned (.agg #[.int .i64 0, .int .i64 3]) ∧ Below w.heap.size w w') [] .returning W := fun W tmps ht hW => by
    obtain ⟨hy1, hyb⟩ := two_new w (.cells #[.slice ag x.globals.length cg, .slice as1 x.strings.length cs, .slice af x.funcs.length cf] 26) (.cells #[.int .i64 0, .int .i64 3] 30)
    rw [← hW] at hy1 hyb
    exact ⟨.agg #[.int .i64 0, .int .i64 3], by simp [results, Tryd.results6, go_sem, ht, World.cell?, hy1], rfl, hyb⟩
  obtain ⟨x0, x1, x2⟩ := three_cells hx0
  have HEnd := Lib.hid hEnd
  clear hEnd hx0 hx1 hba
  refine (callsIn_wide (n := 5)).1 ?_
  refine callsIn_of_wp_marks Tryd.func6 rfl trivial ?_ rfl
  simp only [Tryd.ntmps6, List.size_toArray, List.length_cons, List.length_nil, Nat.reduceAdd, Nat.reduceSub, Array.replicate_succ, Array.replicate_zero, List.push_toArray, List.append_toArray, List.nil_append, List.cons_append]
  by_cases h1 : 256 < x.globals.length
  · have t1 : (256 : Int) < (x.globals.length : Int) := by omega
    clear h h1
    gi_wp2
    exact HEnd.out _ _ rfl rfl
  · have t1 : (x.globals.length : Int) ≤ 256 := by omega
    by_cases h2 : 4096 < x.strings.length
    · have t2 : (4096 : Int) < (x.strings.length : Int) := by omega
      clear h h1 h2
      gi_wp2
      exact HEnd.out _ _ rfl rfl
    · have t2 : (x.strings.length : Int) ≤ 4096 := by omega
      have t3 : (128 : Int) < (x.funcs.length : Int) := by omega
      clear h h1 h2
      gi_wp2
      exact HEnd.out _ _ rfl rfl
theorem check_ok (x : IrP) (gv sv fv : Value) (w : World) (hK : KeysAt w) (hP : IsPr w.heap.size w x gv sv fv) :
    Calls Tryd.prog 6 #[.agg #[gv, sv, fv]] w fun e w' => e = .returned (.agg #[.int .i64 (checkP x).1, .int .i64 (checkP x).2]) ∧ Below w.heap.size w w' := by
  by_cases h : 256 < x.globals.length ∨ 4096 < x.strings.length ∨ 128 < x.funcs.length
  · have he : checkP x = (0, 3) := by unfold checkP; rw [if_pos h]
    rw [he]
    exact check_unfit x gv sv fv w hP h
  · exact check_fit x gv sv fv w hK hP (by omega) (by omega) (by omega)
theorem check_code (x : IrP) (h : checkP x ≠ (0, 0)) : ∃ i : Int, checkP x = (i, 3) ∨ checkP x = (i, 180) := by
  unfold checkP at h ⊢
  split
  · exact ⟨0, .inl rfl⟩
  rename_i h0
  rw [if_neg h0] at h
  dsimp only at h ⊢
  split
  · exact ⟨_, .inr rfl⟩
  rename_i h1
  rw [h1] at h
  dsimp only at h
  split
  · exact ⟨_, .inl rfl⟩
  rename_i h2
  rw [h2] at h
  dsimp only at h
  split
  · exact ⟨_, .inr rfl⟩
  rename_i h3
  rw [h3] at h
  exact absurd rfl h
end Go.Proofs.YtlomdlblohnfmaaDoor
