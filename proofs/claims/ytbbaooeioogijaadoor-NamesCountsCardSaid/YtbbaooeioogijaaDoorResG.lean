/- A function gone over, step by step: what each step keeps. -/
import Derived.Test.YtbbaooeioogijaaDoorMg26
namespace Go.Proofs.YtbbaooeioogijaaDoor
open Go.RowKit Go.Maps

/-- a stage: what is found, all else as it was in w1 -/
structure Stg (B : Nat) (fs : FileN) (f : FnU) (vp vb : Value) (w w1 wx : World) (rb c mb mt : Nat) (p ov sv sv' : Value) (up : List ScN) (s : ScN) (r : ResN) : Prop where
  vis : VisM B fs f vp vb wx rb c mb mt p ov sv' up s r
  below : Below B w wx
  keep : KeepU w1 wx (VisT rb mb mt sv ov)
  size : w1.heap.size ≤ wx.heap.size
  moved : ∀ k, sv'.ownBlock = some k → sv.ownBlock = some k ∨ w1.heap.size ≤ k

section
variable {B : Nat} {fs : FileN} {f : FnU} {vp vb : Value} {w w1 wx w' : World} {rb c mb mt : Nat} {p ov sv sv' : Value} {up : List ScN} {s : ScN} {r r' : ResN}

theorem Stg.bLe (h : Stg B fs f vp vb w w1 wx rb c mb mt p ov sv sv' up s r) : B ≤ wx.heap.size := Nat.le_trans h.vis.res.base (Nat.le_of_lt h.vis.res.lt)
theorem Stg.next (h : Stg B fs f vp vb w w1 wx rb c mb mt p ov sv sv' up s r) (hb : Below wx.heap.size wx w') : Stg B fs f vp vb w w1 w' rb c mb mt p ov sv sv' up s r :=
  ⟨h.vis.below hb, h.below.trans (hb.mono h.bLe), h.keep.below h.size hb, Nat.le_trans h.size hb.size, h.moved⟩
theorem VisM.rest (h : VisM B fs f vp vb wx rb c mb mt p ov sv up s r) (hr : ResM B w' rb f vp vb sv ov r') (hk : KeepU wx w' (· = rb)) (hs : wx.heap.size ≤ w'.heap.size) : VisM B fs f vp vb w' rb c mb mt p ov sv up s r' :=
  h.next (fun k hk1 hT => hk k hk1 (fun e => hT (.inl e))) hs (fun _ e => .inl e) hr (h.sc.ents.move (hk _ h.sc.ents.lt (fun e => h.apart.1.1 e.symm))) (h.sc.taken.move (hk _ h.sc.taken.lt (fun e => h.apart.1.2 e.symm)))
theorem Stg.rest (h : Stg B fs f vp vb w w1 wx rb c mb mt p ov sv sv' up s r) (hr : ResM B w' rb f vp vb sv' ov r') (hb : Below B wx w') (hk : KeepU wx w' (· = rb)) (hs : wx.heap.size ≤ w'.heap.size) : Stg B fs f vp vb w w1 w' rb c mb mt p ov sv sv' up s r' :=
  ⟨h.vis.rest hr hk hs, h.below.trans hb, fun k hk1 hT => (hk k (Nat.lt_of_lt_of_le hk1 h.size) (fun e => hT (.inl e))).trans (h.keep k hk1 hT), Nat.le_trans h.size hs, h.moved⟩
theorem ResM.grown {row : Option Nat} (h : ResM B w rb f vp vb sv ov r) (hg : w.grownBy w' row) (h1 : some rb ≠ row) (h2 : ∀ k, sv.ownBlock = some k → some k ≠ row) (h3 : ∀ k, ov.ownBlock = some k → some k ≠ row) : ResM B w' rb f vp vb sv ov r := by
  refine ⟨(hg.block _ h.lt h1).trans h.blk, h.slots.kept hg ?_, h.out.kept hg ?_, h.base, h.apart⟩
  · cases hv : sv.ownBlock with
    | none => exact .inl rfl
    | some k => exact .inr (h2 k hv)
  · cases hv : ov.ownBlock with
    | none => exact .inl rfl
    | some k => exact .inr (h3 k hv)
theorem turned_below (hB : B ≤ wx.heap.size) {b : Nat} (hb : B ≤ b) (ht : wx.mapTurned w' b) : Below B wx w' := below_turnedU (Below.refl B wx) hB hb ht
theorem Stg.take (h : Stg B fs f vp vb w w1 wx rb c mb mt p ov sv sv' up s r) {n : ByteArray} (ht : wx.mapTurned w' mt) (hn : MapN w' mt (s.taken.length + 1) (cntB (n :: s.taken))) : Stg B fs f vp vb w w1 w' rb c mb mt p ov sv sv' up (s.take n) r := by
  have hg := ht.grown
  have hv := h.vis
  refine ⟨hv.next (fun k hk hT => hg.block k hk (fun e => hT (.inr (.inr (.inl (Option.some.inj e)))))) hg.size (fun _ e => .inl e) (hv.res.grown hg (fun e => hv.apart.1.2 (Option.some.inj e)) (fun k e1 e2 => (hv.apart.2.1 k e1).2 (Option.some.inj e2)) (fun k e1 e2 => (hv.apart.2.2 k e1).2 (Option.some.inj e2))) (hv.sc.ents.kept hg (fun e => hv.sc.ne.2.2 (Option.some.inj e))) hn, h.below.trans (turned_below h.bLe hv.sc.base.2.2 ht), fun k hk hT => (hg.block k (Nat.lt_of_lt_of_le hk h.size) (fun e => hT (.inr (.inr (.inl (Option.some.inj e)))))).trans (h.keep k hk hT), Nat.le_trans h.size hg.size, h.moved⟩
theorem Stg.bind (h : Stg B fs f vp vb w w1 wx rb c mb mt p ov sv sv' up s r) {n : ByteArray} {b : Bnd} (ht : wx.mapTurned w' mb) (hn : MapB w' mb (s.ents.length + 1) (fun t => if t = n then some b else entB s.ents t)) : Stg B fs f vp vb w w1 w' rb c mb mt p ov sv sv' up (s.bind n b) r := by
  have hg := ht.grown
  have hv := h.vis
  have hn' : MapB w' mb (s.bind n b).ents.length (entB (s.bind n b).ents) := hn.same fun t => by
    show _ = entB ((n, b) :: s.ents) t
    rw [entB_cons]
    by_cases e : t = n
    · subst e; simp
    · have e' : ¬ n = t := fun h => e h.symm
      simp [e, e']
  refine ⟨hv.next (fun k hk hT => hg.block k hk (fun e => hT (.inr (.inl (Option.some.inj e))))) hg.size (fun _ e => .inl e) (hv.res.grown hg (fun e => hv.apart.1.1 (Option.some.inj e)) (fun k e1 e2 => (hv.apart.2.1 k e1).1 (Option.some.inj e2)) (fun k e1 e2 => (hv.apart.2.2 k e1).1 (Option.some.inj e2))) hn' (hv.sc.taken.kept hg (fun e => hv.sc.ne.2.2 (Option.some.inj e.symm))), h.below.trans (turned_below h.bLe hv.sc.base.2.1 ht), fun k hk hT => (hg.block k (Nat.lt_of_lt_of_le hk h.size) (fun e => hT (.inr (.inl (Option.some.inj e))))).trans (h.keep k hk hT), Nat.le_trans h.size hg.size, h.moved⟩
/-- a slot more: the row grown, then put into its cell -/
theorem ResM.slot {v' : Value} {x : SlU} (h : ResM B wx rb f vp vb sv ov r) (hg : wx.grownBy w' sv.ownBlock) (ho : w'.ownsRow B 53 4 v' (r.slots.length + 1) (r.slots.flatMap slUCells ++ slUCells x)) (hv : ∀ k, v'.ownBlock = some k → sv.ownBlock = some k ∨ k = wx.heap.size) : ResM B (w'.setCell ⟨rb, 5, none⟩ v') rb f vp vb v' ov ⟨r.slots ++ [x], r.out, r.fault⟩ := by
  have hrb : w'.heap[rb]? = _ := (hg.block _ h.lt (fun e => (h.apart.1 rb e.symm).1 rfl)).trans h.blk
  have hov : w'.ownsRow B 50 3 ov r.out.length (r.out.flatMap bndCells) := h.out.kept hg (by
    cases hk : ov.ownBlock with
    | none => exact .inl rfl
    | some k => exact .inr (fun e => (h.apart.1 k e.symm).2 hk))
  have hne : ∀ k, v'.ownBlock = some k → k ≠ rb ∧ ov.ownBlock ≠ some k := fun k hk => by
    rcases hv k hk with e | e
    · exact h.apart.1 k e
    · have h1 := h.lt
      exact ⟨by omega, fun e2 => by have := own_lt h.out e2; omega⟩
  refine ⟨?_, row_setU ?_ _ _ (fun e => (hne rb e).1 rfl), row_setU hov _ _ (fun e => h.apart.2 rb e rfl), h.base, hne, h.apart.2⟩
  · simp [World.setCell, Array.getElem?_modify, hrb]
  · simp only [List.length_append, List.flatMap_append, List.length_cons, List.length_nil, List.flatMap_cons, List.flatMap_nil, List.append_nil]
    exact ho
theorem Stg.slot {v' : Value} {x : SlU} (h : Stg B fs f vp vb w w1 wx rb c mb mt p ov sv sv' up s r) (hg : wx.grownBy w' sv'.ownBlock) (ho : w'.ownsRow B 53 4 v' (r.slots.length + 1) (r.slots.flatMap slUCells ++ slUCells x)) (hv : ∀ k, v'.ownBlock = some k → sv'.ownBlock = some k ∨ k = wx.heap.size) : Stg B fs f vp vb w w1 (w'.setCell ⟨rb, 5, none⟩ v') rb c mb mt p ov sv v' up s ⟨r.slots ++ [x], r.out, r.fault⟩ := by
  have hvis := h.vis
  have hne : ∀ k, k < wx.heap.size → k ≠ rb → sv'.ownBlock ≠ some k → (w'.setCell ⟨rb, 5, none⟩ v').heap[k]? = wx.heap[k]? := fun k h1 h2 h3 => by
    rw [Below.heap_setCell _ _ _ _ h2]
    exact hg.block k h1 (fun e => h3 e.symm)
  have hsz : wx.heap.size ≤ (w'.setCell ⟨rb, 5, none⟩ v').heap.size := by have := hg.size; simpa using this
  refine ⟨hvis.next (fun k hk hT => hne k hk (fun e => hT (.inl e)) (fun e => hT (.inr (.inr (.inr (.inl e)))))) hsz (fun k e => (hv k e).imp id (fun e => by omega)) (hvis.res.slot hg ho hv) (hvis.sc.ents.move (hne _ hvis.sc.ents.lt (fun e => hvis.apart.1.1 e.symm) (fun e => (hvis.apart.2.1 _ e).1 rfl))) (hvis.sc.taken.move (hne _ hvis.sc.taken.lt (fun e => hvis.apart.1.2 e.symm) (fun e => (hvis.apart.2.1 _ e).2 rfl))), h.below.trans (((Below.refl B wx).grown hg h.bLe (fun k hk => (hvis.res.slots.lt k hk).1)).setCell (p := ⟨rb, 5, none⟩) hvis.res.base v'), fun k hk hT => (hne k (Nat.lt_of_lt_of_le hk h.size) (fun e => hT (.inl e)) (fun e => ?_)).trans (h.keep k hk hT), Nat.le_trans h.size hsz, fun k e => ?_⟩
  · rcases h.moved k e with e | e
    · exact hT (.inr (.inr (.inr (.inl e))))
    · omega
  · rcases hv k e with e | e
    · exact h.moved k e
    · exact .inr (by have := h.size; omega)
end
end Go.Proofs.YtbbaooeioogijaaDoor

