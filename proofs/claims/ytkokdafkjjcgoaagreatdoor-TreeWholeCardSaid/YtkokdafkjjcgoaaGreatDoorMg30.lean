/- What is seen, and where one is, while a tree is gone over: in memory. · A region that draws its order within a round of a loop over a function: by the laws for a plain region. Nothing of the program. -/
import Derived.Test.YtkokdafkjjcgoaaGreatDoorMg28
import Derived.Test.YtkokdafkjjcgoaaGreatDoorMg24
import Derived.OrdersIn
import Derived.RangeFuncCalls
import Derived.OwnWalkIn
import Derived.Deep.AppendLies
import Derived.Test.YtkokdafkjjcgoaaGreatDoorMg18
namespace Go.Proofs.YtkokdafkjjcgoaaGreatDoor
open Go.RowKit Go.Shelf

structure Seen9 (n gs bs bd : Nat) (pre : List (Nat × Nat)) (W : World) : Prop where
  box : W.heap[bs]? = some (.cells #[.slice (some ⟨gs, 0, none⟩) n n] 27 (0, 0))
  row : W.ownsRow gs 3 1 (.slice (some ⟨gs, 0, none⟩) n n) n ((seenN n pre).map natV)
  deep : ∃ g c, W.heap[bd]? = some (.cells #[.slice (some ⟨g, 0, none⟩) (deepsD [] pre).length c] 27 (0, 0)) ∧ W.ownsRow gs 3 1 (.slice (some ⟨g, 0, none⟩) (deepsD [] pre).length c) (deepsD [] pre).length ((deepsD [] pre).map natV) ∧ g ≠ gs ∧ g ≠ bs ∧ g ≠ bd
theorem Seen9.below {n gs bs bd : Nat} {pre : List (Nat × Nat)} {W W' : World} (h : Seen9 n gs bs bd pre W) (hb : Below W.heap.size W W') : Seen9 n gs bs bd pre W' := by
  obtain ⟨g, c, h1, h2, h3⟩ := h.deep
  exact ⟨(hb.block _ (lt_of_heap h.box)).trans h.box, h.row.belowed hb, g, c, (hb.block _ (lt_of_heap h1)).trans h1, h2.belowed hb, h3⟩
theorem seen9_own {t : List Nd} (n gs bs bd : Nat) : Own (fun (pre : List (Elt t)) W => Seen9 n gs bs bd (elts pre) W) := fun pre W W' row h hg hr => by
  have keep : ∀ {b : Nat} {cs : Array Value} {T : TypeId} {f : Nat × Nat}, W.heap[b]? = some (.cells cs T f) → W'.heap[b]? = some (.cells cs T f) := fun ho => (grownBy_keeps_cells hg hr ho rfl).trans ho
  have kr : ∀ {g m c : Nat} {xs : List Value}, W.ownsRow gs 3 1 (.slice (some ⟨g, 0, none⟩) m c) m xs → W'.ownsRow gs 3 1 (.slice (some ⟨g, 0, none⟩) m c) m xs := fun {g m c xs} ho => by
    refine ⟨ho.1, ?_⟩
    rcases ho.2 with e | ⟨g', cap, cur, e, h1, h2, h3⟩
    · exact .inl e
    · exact .inr ⟨g', cap, cur, e, h1, keep h2, h3⟩
  obtain ⟨g, c, h1, h2, h3⟩ := h.deep
  exact ⟨keep h.box, kr h.row, g, c, keep h1, kr h2, h3⟩
/-- the next place is seen, and one is there -/
theorem Seen9.next {n gs bs bd hi : Nat} {pre : List (Nat × Nat)} {x : Nat × Nat} {W W2 : World} {g c g' c' m : Nat} (h : Seen9 n gs bs bd pre W) (hm : (deepsD [] pre).length = m) (hne : gs ≠ bs ∧ gs ≠ bd ∧ bs ≠ bd) (hlo : gs ≤ bd ∧ bs < hi ∧ bd < hi ∧ gs < hi ∧ hi ≤ W.heap.size) (hd : 1 ≤ x.2 ∧ x.2 ≤ m + 1)
    (hg : W.heap[bd]? = some (.cells #[.slice (some ⟨g, 0, none⟩) m c] 27 (0, 0))) (hgo : W.ownsRow gs 3 1 (.slice (some ⟨g, 0, none⟩) m c) m ((deepsD [] pre).map natV)) (hgn : g ≠ gs ∧ g ≠ bs ∧ g ≠ bd)
    (hown : W2.ownsRow gs 3 1 (.slice (some ⟨g', 0, none⟩) (x.2 - 1 + 1) c') (x.2 - 1 + 1) (((deepsD [] pre).map natV).take (x.2 - 1) ++ [natV x.1]))
    (hgr : ((W.setCell ⟨gs, x.1, none⟩ (natV x.2)).alloc (.cells #[natV x.1] 3)).grownBy W2 (some g)) (hat : some g = some g' ∨ g' = ((W.setCell ⟨gs, x.1, none⟩ (natV x.2)).alloc (.cells #[natV x.1] 3)).heap.size) :
    W2.heap[bd]? = some (.cells #[.slice (some ⟨g, 0, none⟩) m c] 27 (0, 0)) ∧ Seen9 n gs bs bd (pre ++ [x]) (W2.setCell ⟨bd, 0, none⟩ (.slice (some ⟨g', 0, none⟩) (x.2 - 1 + 1) c')) ∧ KeepS gs hi bd W (W2.setCell ⟨bd, 0, none⟩ (.slice (some ⟨g', 0, none⟩) (x.2 - 1 + 1) c')) ∧ Below gs W (W2.setCell ⟨bd, 0, none⟩ (.slice (some ⟨g', 0, none⟩) (x.2 - 1 + 1) c')) ∧ KeepsOthers W (W2.setCell ⟨bd, 0, none⟩ (.slice (some ⟨g', 0, none⟩) (x.2 - 1 + 1) c')) := by
  subst hm
  have hbs := lt_of_heap h.box
  have hbd := lt_of_heap hg
  have hgl := (World.ownsRow.lt hgo g rfl)
  have hgsl := (World.ownsRow.lt h.row gs rfl)
  have hsz : W.heap.size + 1 ≤ W2.heap.size := by have := hgr.size; simpa using this
  -- a block that is neither
  have stay : ∀ k, k < W.heap.size → k ≠ gs → k ≠ g → k ≠ bd → (W2.setCell ⟨bd, 0, none⟩ (.slice (some ⟨g', 0, none⟩) (x.2 - 1 + 1) c')).heap[k]? = W.heap[k]? := fun k hk h1 h2 h3 => by
    rw [heap_setCell_other _ _ _ _ (fun e => h3 e), hgr.block k (by simp; omega) (fun e => h2 (by simpa using e)), (ba1 _ _).block k (by simpa using hk), heap_setCell_other _ _ _ _ (fun e => h1 e)]
  have hg'1 : g' = g ∨ W.heap.size ≤ g' := by
    rcases hat with e | e
    · left; simpa using e.symm
    · right; rw [e]; simp
  have hg' : g' ≠ gs ∧ g' ≠ bs ∧ g' ≠ bd := by
    rcases hg'1 with e | e
    · rw [e]; exact hgn
    · omega
  have hW1row := (h.row.stored x.1 (natV x.2)).1
  have hrow2 : W2.ownsRow gs 3 1 (.slice (some ⟨gs, 0, none⟩) n n) n (((seenN n pre).map natV).set x.1 (natV x.2)) := (hW1row.belowed (ba1 _ _)).kept hgr (.inr (fun e => hgn.1 (by simpa [Value.ownBlock] using e.symm)))
  have hb0 : W2.heap[bd]? = some (.cells #[.slice (some ⟨g, 0, none⟩) (deepsD [] pre).length c] 27 (0, 0)) := by
    rw [hgr.block bd (by simp; omega) (fun e => hgn.2.2 (by simpa using e.symm)), (ba1 _ _).block bd (by simpa using hbd), heap_setCell_other _ _ _ _ (fun e => hne.2.1 e.symm)]
    exact hg
  have hlen : (nextD (deepsD [] pre) x).length = x.2 - 1 + 1 := by
    have := nextD_take (deepsD [] pre) x.1 x.2 hd.1 hd.2
    have h2 : x.2 - 1 + 1 = x.2 := by omega
    rw [h2]; exact this
  refine ⟨hb0, ⟨(stay bs hbs (fun e => hne.1 e.symm) (fun e => hgn.2.1 e.symm) hne.2.2).trans h.box, ?_, g', c', ?_, ?_, hg'⟩, ?_, ?_, ?_⟩
  · rw [seenN_snoc, List.map_set]
    exact row_set9 hrow2 _ _ (by simp only [Value.ownBlock, ne_eq, Option.some.injEq]; exact hne.2.1)
  · rw [deepsD_snoc, hlen]
    exact set_blkP hb0 _
  · rw [deepsD_snoc, hlen, show (nextD (deepsD [] pre) x).map natV = ((deepsD [] pre).map natV).take (x.2 - 1) ++ [natV x.1] by unfold nextD; rw [List.map_append, List.map_take]; rfl]
    exact row_set9 hown _ _ (by simp only [Value.ownBlock, ne_eq, Option.some.injEq]; exact hg'.2.2)
  · have hrW : rowB bd W = some g := by unfold rowB; rw [(one_blockP hg).1]; rfl
    have hx3 := set_blkP (i := 0) hb0 (.slice (some ⟨g', 0, none⟩) (x.2 - 1 + 1) c')
    have hr3 : rowB bd (W2.setCell ⟨bd, 0, none⟩ (.slice (some ⟨g', 0, none⟩) (x.2 - 1 + 1) c')) = some g' := by unfold rowB; rw [(one_blockP hx3).1]; rfl
    refine ⟨hgr.os, hgr.tape, hgr.output, by simp; omega, fun ho => ⟨⟨ho.lo_, ho.hi_, by have := ho.size; simp; omega, by rw [(one_blockP hx3).1]; rfl, fun q e => ?_⟩, fun k o hk hr hk2 _ => ?_, fun q e => ?_⟩⟩
    · rw [hr3] at e
      obtain rfl := Option.some.inj e
      have := World.ownsRow.lt hown g' rfl
      exact ⟨this.1, by simpa using this.2⟩
    · rw [hrW] at hr
      rw [stay k (lt_of_heap hk2) (by omega) (fun e => hr (by rw [e])) (by omega)]
      exact hk2
    · rw [hr3] at e
      obtain rfl := Option.some.inj e
      rcases hg'1 with e | e
      · exact .inl (by rw [hrW, e])
      · exact .inr (.inl e)
  · refine ⟨hgr.os, hgr.tape, hgr.output, by simp; omega, fun k hk => stay k (by omega) (by omega) (by omega) (by omega)⟩
  · refine (((KeepsOthers.setCell W _ _).trans (KeepsOthers.alloc _ _)).trans (KeepsOthers.of_grownBy hgr fun j o ej hj => ?_)).trans (KeepsOthers.setCell _ _ _)
    obtain rfl : g = j := by simpa using ej
    rw [(ba1 _ _).block g (by simpa using hgl.2), heap_setCell_other _ _ _ _ (fun e => hgn.1 e)] at hj
    rcases hgo.2 with ⟨e, _⟩ | ⟨g2, c2, cur, e, _, hh, _⟩
    · cases e
    · simp only [Value.slice.injEq, Option.some.injEq, Addr.mk.injEq] at e
      obtain ⟨⟨rfl, _⟩, _⟩ := e
      rw [hh] at hj
      cases hj
      rfl
end Go.Proofs.YtkokdafkjjcgoaaGreatDoor
namespace Go

/-- an end that is plain -/
def nrmQ (Q : Exit → Act → World → Prop) : Exit → Act → World → Prop
  | .normal, a, w => Q .normal a w
  | _, _, _ => False
def noDeferB (ops : Array Oper) : Bool := ops.toList.all fun o => match o.op with
  | .defer _ => false
  | _ => true
theorem noDeferB_spec {ops : Array Oper} (h : noDeferB ops = true) {j : Nat} {o : Oper} (ho : ops[j]? = some o) : ∀ c, o.op ≠ .defer c := fun c e => by
  unfold noDeferB at h
  have := List.all_eq_true.1 h o (by rw [← Array.mem_def]; exact Array.mem_of_getElem? ho)
  rw [e] at this
  cases this
theorem rowsIn_round {l n : Nat} {P : Program} {row : String} {args : Array Value} {w : World} {R : Value → World → Prop} (h : Rows P row args w R) : RowsIn (Fence.wide.inRound l) n P row args w R :=
  fun c cs _ => let ⟨v, w', r, s⟩ := h c cs; ⟨v, w', r, stepsIn_wide.2 s⟩
theorem Oper.wpIn_round {l n : Nat} {P : Program} {o : Oper} {a : Act} {w : World} {K : Act → World → Prop} {Q : Exit → Act → World → Prop} (hd : ∀ c, o.op ≠ .defer c) (h : o.wp P a w K (nrmQ Q)) : o.wpIn (Fence.wide.inRound l) n P a w K Q := by
  unfold Oper.wpIn
  refine ⟨fun _ _ => trivial, ?_⟩
  rw [Oper.semAt_plain _ _ _ hd]
  unfold Oper.wp at h
  generalize (execOp a.eval o).run P w = r at *
  cases r with
  | ok x w' =>
    cases x <;> simp only [Oper.upon, Oper.uponIn] at h ⊢
    case value v => exact h
    case skip => exact h
    case defer d => exact h
    case enter f args =>
      refine ⟨(fun hh => by cases hh), CallsIn.inRound l (callsIn_wide.2 (h.mono fun e w'' he => ?_))⟩
      cases e with
      | returned v => exact he
      | panicked c => exact he.elim
      | outgrown =>
        obtain ⟨a', w3, h3⟩ := he
        exact h3.elim
    case row row args => exact ⟨(fun hh => by cases hh), rowsIn_round h⟩
  | halt x w' => cases x <;> simp only [Oper.upon, Oper.uponIn] at h ⊢ <;> exact h.elim
theorem wpAnyIn_round {l n : Nat} {P : Program} {md : Region.Mode} {ops : Array Oper} {Q : Exit → Act → World → Prop} (hd : noDeferB ops = true) : ∀ (fuel : Nat) (listed : Array Bool) (a : Act) (w : World), wpAny P md ops (nrmQ Q) fuel listed a w → wpAnyIn (Fence.wide.inRound l) n P md ops Q fuel listed a w
  | 0, _, _, _, h => h
  | fuel + 1, listed, a, w, h => ⟨h.1, fun i hi => by
    have h2 := h.2 i hi
    unfold wpOp at h2
    unfold wpOpIn
    split
    · rename_i e
      simp only [e] at h2
      exact wpAnyIn_round hd fuel _ _ _ h2
    · rename_i o e
      simp only [e] at h2
      split
      · rename_i hw
        rw [if_pos hw] at h2
        rcases h2 with h2 | ⟨_, a', w', h2⟩
        · exact Oper.wpIn_round (noDeferB_spec hd e) (Oper.wp_mono (fun a' w' h' => wpAnyIn_round hd fuel _ a' w' h') h2)
        · exact h2.elim
      · rename_i hw
        rw [if_neg hw] at h2
        exact ⟨fun _ _ => trivial, wpAnyIn_round hd fuel _ _ _ h2⟩⟩
theorem wpIn_region_round {l n id : Nat} {P : Program} {ops : Array Oper} {Q : Exit → Act → World → Prop} {a : Act} {w : World} (hm : P.follows .mixedOrders = true) (hd : noDeferB ops = true) (h : wpAny P .any ops (nrmQ Q) ops.size (Array.replicate ops.size false) a { w with drawn := w.drawn + 1 }) : (Code.region id ops true).wpIn (Fence.wide.inRound l) n P Q a w :=
  wpIn_region_any hm (wpAnyIn_round hd _ _ _ _ h)
open Go.RowKit in
/-- an append within a fence: where the longer row lies -/
theorem wpListIn_append_lies {F : Fence} {n : Nat} {P : Program} (w : World) {ops : Array Oper} {rest : List Oper} {o : Oper} {a : Act} {Q : Exit → Act → World → Prop}
    (hg : o.guard = none) (s x : Operand) (t : TypeId) (hop : o.op = Op.call { callee := Callee.builtin Builtin.append, args := #[s, x], argTypes := #[t, t] })
    (base : Nat) (e : TypeId) (i : TypeInfo) (z : Value) (size bytes : Nat) (h1 : P.underlying t = some (.slice e)) (h2 : P.info? e = some i) (h3 : i.zero = some z) (h4 : i.size = size) (h5 : i.bytes = bytes) (h6 : z.cells.size = size) (h7 : 0 < size)
    (v : Value) (k : Nat) (xs : List Value) (hs : a.eval s = v) (hown : w.ownsRow base e size v k xs) (ad : Addr) (m c : Nat) (news : List Value) (hx : a.eval x = .slice (some ad) m c) (hn : news.length = m * size)
    (hc : ∀ j u, news[j]? = some u → w.cell? (ad.add j) = some u) (h1c : ∀ u ∈ news, u.oneCell' = true) (hm : 0 < m) (b1 : k + m ≤ maxLen) (b2 : (k + m) * bytes ≤ 140737488355328) (b3 : base ≤ w.heap.size)
    (hK : ∀ g cap w', w'.ownsRow base e size (.slice (some ⟨g, 0, none⟩) (k + m) cap) (k + m) (xs ++ news) → w.grownBy w' v.ownBlock → (v.ownBlock = some g ∨ g = w.heap.size) → g < w'.heap.size → wpListIn F n P ops Q rest (a.put o.dst (.slice (some ⟨g, 0, none⟩) (k + m) cap)) w') :
    wpListIn F n P ops Q (o :: rest) a w := by
  refine wpListIn_plain hg fun K hK' => ?_
  obtain ⟨g, cap, w', hrun, r1, r2, r3, r4⟩ := run_append_lies (P := P) w t o.type base e i z size bytes h1 h2 h3 h4 h5 h6 h7 v k xs hown ad m c news hn hc h1c hm b1 b2 b3 _ rfl
  unfold Oper.wpIn
  refine ⟨?_, ?_⟩
  · simp [Oper.about, hop, resolve, Target.leads, Sem.run_pure]
  · rw [Oper.semAt_plain F _ _ (by rw [hop]; intro c hc'; cases hc')]
    simp [execOp, hop, resolve, invoke, builtin, hs, hx, hrun, Result.andThen]
    exact hK' _ _ (hK g cap w' r1 r2 r3 r4)
end Go
