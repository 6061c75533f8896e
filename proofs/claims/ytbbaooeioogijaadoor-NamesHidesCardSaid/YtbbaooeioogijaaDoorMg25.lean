/- A function gone over: what visits of parts come to. · A function gone over: the program, all but declarations. -/
import Derived.Test.YtbbaooeioogijaaDoorResS
namespace Go.Proofs.YtbbaooeioogijaaDoor
open Go.RowKit Go.Maps

/-- room for slots more -/
structure RoomV (s : ScN) (r : ResN) : Prop where
  small : Small r
  ents : s.ents.length ≤ r.slots.length
  taken : s.taken.length ≤ r.slots.length
theorem RoomV.grow {s : ScN} {r : ResN} {q : ResN × ScN} (h : RoomV s r) (g : Grow s r q) : RoomV q.2 q.1 := by
  obtain ⟨g1, g2, g3, _, g5⟩ := g
  have h1 := h.ents
  have h2 := h.taken
  exact ⟨g5 h.small, by omega, by omega⟩
theorem RoomV.new {s : ScN} {r : ResN} (h : RoomV s r) : RoomV ScN.new r := ⟨h.small, Nat.zero_le _, Nat.zero_le _⟩
theorem RoomV.name {fs : FileN} {c : List ScN} {x : Nd} {k : Nat} {s : ScN} {r : ResN} (h : RoomV s r) : RoomV s (nameR fs c x k r) := by
  obtain ⟨l1, _, l3⟩ := nameR_len (fs := fs) (c := c) (x := x) (k := k) (r := r)
  exact ⟨l3 h.small, by rw [l1]; exact h.ents, by rw [l1]; exact h.taken⟩
section
variable {B : Nat} {fs : FileN} {f : FnU} {vp vb : Value} {w w1 wx wy w' : World} {rb c mb mt c2 mb2 mt2 : Nat} {p ov sv sv' sv2 : Value} {up : List ScN} {s s2 : ScN} {r r' r2 : ResN}

theorem Stg.refl (h : VisM B fs f vp vb w rb c mb mt p ov sv up s r) : Stg B fs f vp vb w w w rb c mb mt p ov sv sv up s r :=
  ⟨h, Below.refl _ _, KeepU.refl _ _, Nat.le_refl _, fun _ e => .inl e⟩
theorem Stg.visit (h : Stg B fs f vp vb w w1 wx rb c mb mt p ov sv sv' up s r) (g : Stg B fs f vp vb wx wx wy rb c mb mt p ov sv' sv2 up s2 r2) : Stg B fs f vp vb w w1 wy rb c mb mt p ov sv sv2 up s2 r2 := by
  refine ⟨g.vis, h.below.trans g.below, fun k hk hT => (g.keep k (Nat.lt_of_lt_of_le hk h.size) (fun hT' => ?_)).trans (h.keep k hk hT), Nat.le_trans h.size g.size, fun k e => ?_⟩
  · rcases hT' with e | e | e | e | e
    · exact hT (.inl e)
    · exact hT (.inr (.inl e))
    · exact hT (.inr (.inr (.inl e)))
    · rcases h.moved k e with e | e
      · exact hT (.inr (.inr (.inr (.inl e))))
      · omega
    · exact hT (.inr (.inr (.inr (.inr e))))
  · rcases g.moved k e with e | e
    · exact h.moved k e
    · exact .inr (Nat.le_trans h.size e)
/-- something made ahead of what is gone over -/
theorem Stg.ahead (hb : Below w.heap.size w w1) (g : Stg B fs f vp vb w w1 wx rb c mb mt p ov sv sv' up s r) : Stg B fs f vp vb w w wx rb c mb mt p ov sv sv' up s r :=
  ⟨g.vis, g.below, fun k hk hT => (g.keep k (Nat.lt_of_lt_of_le hk hb.size) hT).trans (hb.block k hk), Nat.le_trans hb.size g.size, fun k e => (g.moved k e).imp id (fun h => Nat.le_trans hb.size h)⟩
/-- something done ahead of what is gone over, from another beginning -/
theorem Stg.joins (hB : B ≤ w.heap.size) (hb : Below w.heap.size w w1) (g : Stg B fs f vp vb w1 w1 wx rb c mb mt p ov sv sv' up s r) : Stg B fs f vp vb w w wx rb c mb mt p ov sv sv' up s r :=
  ⟨g.vis, (hb.mono hB).trans g.below, fun k hk hT => (g.keep k (Nat.lt_of_lt_of_le hk hb.size) hT).trans (hb.block k hk), Nat.le_trans hb.size g.size, fun k e => (g.moved k e).imp id (fun h => Nat.le_trans hb.size h)⟩
theorem VisM.full (h : VisM B fs f vp vb w rb c mb mt p ov sv up s r) : ChainM fs (fun k => k < w.heap.size) w (s :: up) (.pointer (some ⟨c, 0, none⟩)) :=
  ⟨c, mb, mt, _, p, rfl, h.free.1, h.sc.ents.lt, h.sc.blk, h.sc.ents, h.chain.keep fun _ hk => ⟨rfl, hk.1⟩⟩
/-- a scope within -/
theorem VisM.inner (h : VisM B fs f vp vb w rb c mb mt p ov sv up s r) (hs : ScM w.heap.size w1 c2 mb2 mt2 (.pointer (some ⟨c, 0, none⟩)) ScN.new) (hb : Below w.heap.size w w1) : VisM B fs f vp vb w1 rb c2 mb2 mt2 (.pointer (some ⟨c, 0, none⟩)) ov sv (s :: up) ScN.new r := by
  have hrl := h.res.lt
  have hBl := h.res.base
  have hm2 := h.sc.ents.lt
  have ht2 := h.sc.taken.lt
  obtain ⟨b1, b2, b3⟩ := hs.base
  have hso : ∀ k, sv.ownBlock = some k → k < w.heap.size := fun k e => own_lt h.res.slots e
  have hoo : ∀ k, ov.ownBlock = some k → k < w.heap.size := fun k e => own_lt h.res.out e
  have hfree : ∀ k, FreeV w rb mb mt sv ov k → FreeV w1 rb mb2 mt2 sv ov k := fun k ⟨h1, h2⟩ => ⟨Nat.lt_of_lt_of_le h1 hb.size, fun hT => by
    rcases hT with e | e | e | e | e
    · exact h2 (.inl e)
    · omega
    · omega
    · exact h2 (.inr (.inr (.inr (.inl e))))
    · exact h2 (.inr (.inr (.inr (.inr e))))⟩
  have hcl := hfree c h.free
  refine ⟨h.res.below hb, ⟨hs.blk, hs.ents, hs.taken, ⟨by omega, by omega, by omega⟩, hs.ne⟩, ⟨c, mb, mt, _, p, rfl, hcl, ⟨Nat.lt_of_lt_of_le hm2 hb.size, fun hT => ?_⟩, (hb.block c h.free.1).trans h.sc.blk, h.sc.ents.below hb, h.chain.keep fun k hk => ⟨hb.block k hk.1, hfree k hk⟩⟩, ⟨lt_of_heap hs.blk, fun hT => ?_⟩, ⟨by omega, by omega⟩, fun k e => ?_, fun k e => ?_⟩
  · rcases hT with e | e | e | e | e
    · exact h.apart.1.1 e.symm
    · omega
    · omega
    · exact (h.apart.2.1 mb e).1 rfl
    · exact (h.apart.2.2 mb e).1 rfl
  · rcases hT with e | e | e | e | e
    · omega
    · exact hs.ne.1 e
    · exact hs.ne.2.1 e
    · have := hso _ e; omega
    · have := hoo _ e; omega
  · have := hso _ e
    exact ⟨by omega, by omega⟩
  · have := hoo _ e
    exact ⟨by omega, by omega⟩
/-- back from a scope within -/
theorem VisM.outer (h : VisM B fs f vp vb w rb c mb mt p ov sv up s r) (hs : ScM w.heap.size w1 c2 mb2 mt2 (.pointer (some ⟨c, 0, none⟩)) ScN.new) (hb : Below w.heap.size w w1) (g : Stg B fs f vp vb w1 w1 wx rb c2 mb2 mt2 (.pointer (some ⟨c, 0, none⟩)) ov sv sv' (s :: up) s2 r2) : Stg B fs f vp vb w w wx rb c mb mt p ov sv sv' up s r2 := by
  obtain ⟨b1, b2, b3⟩ := hs.base
  have hk : ∀ k, k < w.heap.size → k ≠ rb → sv.ownBlock ≠ some k → ov.ownBlock ≠ some k → wx.heap[k]? = w.heap[k]? := fun k h1 h2 h3 h4 => (g.keep k (Nat.lt_of_lt_of_le h1 hb.size) (fun hT => by
    rcases hT with e | e | e | e | e
    · exact h2 e
    · omega
    · omega
    · exact h3 e
    · exact h4 e)).trans (hb.block k h1)
  have hBl := h.res.base
  have hrl := h.res.lt
  have hm := h.sc.ents.lt
  have ht := h.sc.taken.lt
  refine ⟨h.next (fun k h1 hT => hk k h1 (fun e => hT (.inl e)) (fun e => hT (.inr (.inr (.inr (.inl e))))) (fun e => hT (.inr (.inr (.inr (.inr e)))))) (Nat.le_trans hb.size g.size) (fun k e => (g.moved k e).imp id (fun h => Nat.le_trans hb.size h)) g.vis.res (h.sc.ents.move (hk mb hm (fun e => h.apart.1.1 e.symm) (fun e => (h.apart.2.1 mb e).1 rfl) (fun e => (h.apart.2.2 mb e).1 rfl))) (h.sc.taken.move (hk mt ht (fun e => h.apart.1.2 e.symm) (fun e => (h.apart.2.1 mt e).2 rfl) (fun e => (h.apart.2.2 mt e).2 rfl))), (hb.mono (by omega)).trans g.below, fun k h1 hT => hk k h1 (fun e => hT (.inl e)) (fun e => hT (.inr (.inr (.inr (.inl e))))) (fun e => hT (.inr (.inr (.inr (.inr e))))), Nat.le_trans hb.size g.size, fun k e => (g.moved k e).imp id (fun h => Nat.le_trans hb.size h)⟩
theorem flat_set3 {α : Type} {cells : α → List Value} (hk : ∀ a, (cells a).length = 3) {q : α} {a0 a1 a2 : Value} (hq : cells q = [a0, a1, a2]) : ∀ (L : List α) (i : Nat), i < L.length →
    ((((L.flatMap cells).set (i * 3) a0).set (i * 3 + 1) a1).set (i * 3 + 2) a2) = (L.set i q).flatMap cells
  | [], i, h => by simp at h
  | y :: r, 0, _ => by
    have := hk y
    rw [List.set_cons_zero, List.flatMap_cons, List.flatMap_cons, hq]
    rcases hc : cells y with _ | ⟨b0, _ | ⟨b1, _ | ⟨b2, _ | ⟨b3, c⟩⟩⟩⟩ <;> rw [hc] at this <;> simp at this
    rfl
  | y :: r, i + 1, h => by
    have h3 := hk y
    have ih := flat_set3 hk hq r i (by simpa using h)
    have e : ∀ j, (i + 1) * 3 + j = (cells y).length + (i * 3 + j) := fun j => by rw [h3]; omega
    have e0 : (i + 1) * 3 = (cells y).length + (i * 3) := by rw [h3]; omega
    rw [List.set_cons_succ, List.flatMap_cons, List.flatMap_cons, e, e, e0, ← ih]
    have key : ∀ (Z : List Value) (j : Nat) (u : Value), (cells y ++ Z).set ((cells y).length + j) u = cells y ++ Z.set j u := fun Z j u => by
      rw [List.set_append_right _ _ (by omega)]
      congr 2
      omega
    rw [key, key, key]
/-- what a place is bound to, put -/
theorem ResM.put {g n cap k : Nat} {b : Bnd} (h : ResM B wx rb f vp vb sv (.slice (some ⟨g, 0, none⟩) n cap) r) (hn : r.out.length = n) (hk : k < n) : ResM B (((wx.setCell ⟨g, k * 3, none⟩ (.int .i64 b.kind)).setCell ⟨g, k * 3 + 1, none⟩ (.int .i64 b.idx)).setCell ⟨g, k * 3 + 2, none⟩ (.string b.type)) rb f vp vb sv (.slice (some ⟨g, 0, none⟩) n cap) (r.put k b) := by
  subst hn
  have hg : g ≠ rb := h.apart.2 g rfl
  have hsg : sv.ownBlock ≠ some g := fun e => (h.apart.1 g e).2 rfl
  refine ⟨?_, row_setU (row_setU (row_setU h.slots _ _ hsg) _ _ hsg) _ _ hsg, ?_, h.base, h.apart⟩
  · rw [Below.heap_setCell _ _ _ _ (by simpa using Ne.symm hg), Below.heap_setCell _ _ _ _ (by simpa using Ne.symm hg), Below.heap_setCell _ _ _ _ (by simpa using Ne.symm hg)]
    exact h.blk
  · have := own_put (c := k * 3 + 2) (u := .string b.type) (own_put (c := k * 3 + 1) (u := .int .i64 b.idx) (own_put (c := k * 3) (u := .int .i64 b.kind) h.out))
    rw [flat_set3 bnd_len (q := b) rfl r.out k hk] at this
    have hl : (r.put k b).out.length = r.out.length := List.length_set
    rw [hl]
    exact this
theorem Stg.put {g n cap k : Nat} {b : Bnd} (h : Stg B fs f vp vb w w1 wx rb c mb mt p (.slice (some ⟨g, 0, none⟩) n cap) sv sv' up s r) (hn : r.out.length = n) (hk : k < n) : Stg B fs f vp vb w w1 (((wx.setCell ⟨g, k * 3, none⟩ (.int .i64 b.kind)).setCell ⟨g, k * 3 + 1, none⟩ (.int .i64 b.idx)).setCell ⟨g, k * 3 + 2, none⟩ (.string b.type)) rb c mb mt p (.slice (some ⟨g, 0, none⟩) n cap) sv sv' up s (r.put k b) := by
  have hv := h.vis
  have hr := hv.res.put hn hk (b := b)
  have hgB : B ≤ g := (hv.res.out.lt g rfl).1
  have hke : ∀ j, j ≠ g → (((wx.setCell ⟨g, k * 3, none⟩ (.int .i64 b.kind)).setCell ⟨g, k * 3 + 1, none⟩ (.int .i64 b.idx)).setCell ⟨g, k * 3 + 2, none⟩ (.string b.type)).heap[j]? = wx.heap[j]? := fun j hj => by
    rw [Below.heap_setCell _ _ _ _ (by simpa using hj), Below.heap_setCell _ _ _ _ (by simpa using hj), Below.heap_setCell _ _ _ _ (by simpa using hj)]
  have hmb := (hv.apart.2.2 g rfl)
  have hT : ∀ j, ¬ VisT rb mb mt sv' (.slice (some ⟨g, 0, none⟩) n cap) j → j ≠ g := fun j hj e => hj (.inr (.inr (.inr (.inr (by rw [e]; rfl)))))
  have hT2 : ∀ j, ¬ VisT rb mb mt sv (.slice (some ⟨g, 0, none⟩) n cap) j → j ≠ g := fun j hj e => hj (.inr (.inr (.inr (.inr (by rw [e]; rfl)))))
  refine ⟨hv.next (fun j _ hj => hke j (hT j hj)) (by simp) (fun _ e => .inl e) hr (hv.sc.ents.move (hke _ (Ne.symm hmb.1))) (hv.sc.taken.move (hke _ (Ne.symm hmb.2))), h.below.trans ((((Below.refl B wx).setCell (p := ⟨g, k * 3, none⟩) hgB _).setCell (p := ⟨g, k * 3 + 1, none⟩) hgB _).setCell (p := ⟨g, k * 3 + 2, none⟩) hgB _), fun j hj hj2 => (hke j (hT2 j hj2)).trans (h.keep j hj hj2), by simpa using h.size, h.moved⟩
/-- how going over a node ends -/
def VisEnd (B : Nat) (fs : FileN) (f : FnU) (vp vb : Value) (rb c mb mt : Nat) (p ov sv : Value) (up : List ScN) (w : World) (q : ResN × ScN) (e : Ending) (w' : World) : Prop := e = .returned (.tuple #[]) ∧ ∃ sv', Stg B fs f vp vb w w w' rb c mb mt p ov sv sv' up q.2 q.1
theorem visits_take {t : List Nd} {fr : List Nat} (ps : List Nat) (i : Nat) (hi : i < ps.length) (up : List ScN) (s : ScN) (r : ResN) : visitsN t fr fs (ps.take (i + 1)) up s r = visitN t fr fs ps[i] up (visitsN t fr fs (ps.take i) up s r).2 false (visitsN t fr fs (ps.take i) up s r).1 := by
  rw [List.take_succ_eq_append_getElem hi, visitsN_append, visitsN, visitsN]
end
end Go.Proofs.YtbbaooeioogijaaDoor
namespace Go.Proofs.YtbbaooeioogijaaDoor
open Go.RowKit Go.Maps

/-- what is claimed of a place -/
def VisitAt (A B rb : Nat) (fs : FileN) (f : FnU) (vp : Value) (ab : Option Addr) (cb : Nat) (fr : List Nat) (k : Nat) : Prop := ∀ (w : World) (c mb mt : Nat) (p ov sv : Value) (up : List ScN) (s : ScN) (own : Bool) (r : ResN), VisM B fs f vp (.slice ab f.body.length cb) w rb c mb mt p ov sv up s r → IsNds A w ab f.body → RoomV s r → r.out.length = f.body.length →
    Calls Tryd.prog 25 #[.pointer (some ⟨rb, 0, none⟩), .int .i64 (k : Int), .pointer (some ⟨c, 0, none⟩), .bool own] w (VisEnd B fs f vp (.slice ab f.body.length cb) rb c mb mt p ov sv up w (visitN f.body fr fs k up s own r))
/-- where a node's parts are about to be gone over -/
def CutV (B : Nat) (fs : FileN) (f : FnU) (vp vb : Value) (rb c mb mt : Nat) (p ov sv : Value) (up : List ScN) (fr ps : List Nat) (w : World) (q : ResN × ScN) (v2 : Value) (wx : World) : Prop :=
  ∃ (c2 mb2 mt2 : Nat) (p2 sv2 : Value) (up2 : List ScN) (s2 : ScN) (r2 : ResN), v2 = .pointer (some ⟨c2, 0, none⟩) ∧ VisM B fs f vp vb wx rb c2 mb2 mt2 p2 ov sv2 up2 s2 r2 ∧ RoomV s2 r2 ∧ r2.out.length = f.body.length ∧ Below B w wx ∧
    ∀ wy sv3, Stg B fs f vp vb wx wx wy rb c2 mb2 mt2 p2 ov sv2 sv3 up2 (visitsN f.body fr fs ps up2 s2 r2).2 (visitsN f.body fr fs ps up2 s2 r2).1 → ∃ sv4, Stg B fs f vp vb w w wy rb c mb mt p ov sv sv4 up q.2 q.1
section
variable {B : Nat} {fs : FileN} {f : FnU} {vp vb : Value} {w w1 wx : World} {rb c mb mt c2 mb2 mt2 : Nat} {p ov sv sv' : Value} {up : List ScN} {s : ScN} {r r2 : ResN} {fr ps : List Nat} {q : ResN × ScN}
theorem cutV_of (hS : Stg B fs f vp vb w w wx rb c mb mt p ov sv sv' up s r2) (hR : RoomV s r2) (hl : r2.out.length = f.body.length) (hq : q = visitsN f.body fr fs ps up s r2) : CutV B fs f vp vb rb c mb mt p ov sv up fr ps w q (.pointer (some ⟨c, 0, none⟩)) wx :=
  ⟨c, mb, mt, p, sv', up, s, r2, rfl, hS.vis, hR, hl, hS.below, fun wy sv3 g => ⟨sv3, by rw [hq]; exact hS.visit g⟩⟩
theorem cutV_in (hB : B ≤ w.heap.size) (hb : Below w.heap.size w w1) (h : VisM B fs f vp vb w1 rb c mb mt p ov sv up s r) (hs : ScM w1.heap.size wx c2 mb2 mt2 (.pointer (some ⟨c, 0, none⟩)) ScN.new) (hb2 : Below w1.heap.size w1 wx) (hR : RoomV s r) (hl : r.out.length = f.body.length) (hq : q = ((visitsN f.body fr fs ps (s :: up) ScN.new r).1, s)) : CutV B fs f vp vb rb c mb mt p ov sv up fr ps w q (.pointer (some ⟨c2, 0, none⟩)) wx :=
  ⟨c2, mb2, mt2, _, sv, s :: up, ScN.new, r, rfl, h.inner hs hb2, hR.new, hl, (hb.mono hB).trans (hb2.mono (Nat.le_trans hB hb.size)), fun wy sv3 g => ⟨sv3, by rw [hq]; exact (h.outer hs hb2 g).joins hB hb⟩⟩
end
/-- the row of a node's parts, whatever is written -/
def RowAt (base : Nat) (w1 : World) (pa : Option Addr) (ps : List Nat) : Prop := ∀ (i : Nat) (hi : i < ps.length), ∃ b off, pa = some ⟨b, off, none⟩ ∧ base ≤ b ∧ b < w1.heap.size ∧ w1.cell? ⟨b, off + i, none⟩ = some (.int .i64 (ps[i] : Int))
theorem rowAt_of {w1 : World} {base : Nat} {v : Value} {ps : List Nat} (h : NatRow w1 base v ps) : ∃ pa pc, v = .slice pa ps.length pc ∧ RowAt base w1 pa ps := by
  have hfar := nat_far_any h
  obtain ⟨pa, pc, rfl, hN, _⟩ := h.is
  refine ⟨pa, pc, rfl, fun i hi => ?_⟩
  obtain ⟨b, off, hpa, hb, hc⟩ := nats_at hN hi
  subst hpa
  exact ⟨b, off, rfl, hfar _ _ _ _ rfl (by omega), hb, hc⟩
set_option maxRecDepth 100000 in
set_option maxHeartbeats 8000000 in
theorem visit_else {A B rb : Nat} {fs : FileN} {f : FnU} {vp : Value} {ab : Option Addr} {cb : Nat} {fr : List Nat} (hbg : beginsN f.body = some fr) (hl : f.body.length ≤ 4096) (hT : ∀ x ∈ f.body, x.kind = 3 ∨ x.kind = 22 → x.text.size ≤ maxLen) (hAB : A ≤ B) (k : Nat) (hk : k < f.body.length) (ih : ∀ p, p < k → VisitAt A B rb fs f vp ab cb fr p)
    (w : World) (c mb mt : Nat) (p ov sv : Value) (up : List ScN) (s : ScN) (own : Bool) (r : ResN) (h : VisM B fs f vp (.slice ab f.body.length cb) w rb c mb mt p ov sv up s r) (hI : IsNds A w ab f.body) (hR : RoomV s r) (hout : r.out.length = f.body.length) (hr0 : r.fault.2 = 0) (h22 : (f.body.getD k ndU0).kind ≠ 22) :
    Calls Tryd.prog 25 #[.pointer (some ⟨rb, 0, none⟩), .int .i64 (k : Int), .pointer (some ⟨c, 0, none⟩), .bool own] w (VisEnd B fs f vp (.slice ab f.body.length cb) rb c mb mt p ov sv up w (visitN f.body fr fs k up s own r)) := by
  have hBw : B ≤ w.heap.size := by have := h.res.base; have := h.res.lt; omega
  have hv := visitN_eq (fs := fs) (formed_of hbg) k up s own r
  rw [if_neg (show ¬ r.fault.2 ≠ 0 by simp [hr0]), if_neg h22] at hv
  have hps : ∀ q ∈ partsAt f.body fr k, q < k := fun q hq => (formed_of hbg).parts_lt hq
  have hpl : (partsAt f.body fr k).length ≤ 4096 := by
    rw [partsAt_is (List.getElem?_eq_getElem hk), partsE_length]
    have := ((formed_of hbg).node k _ (List.getElem?_eq_getElem hk)).2.1.le
    omega
  have HPt := Lib.hid (fun (w1 : World) (h1 : rb < w1.heap.size) (h2 : A ≤ w1.heap.size) (h3 : w1.cell? ⟨rb, 4, none⟩ = some (.slice ab f.body.length cb)) (h4 : IsNds A w1 ab f.body) => parts11_ok hbg k hk hl w1 h1 h2 h3 h4)
  have HIh := Lib.hid ih
  obtain ⟨⟨k0, k1, k2, k3, k4, k5, k6, k7, k8⟩, _⟩ := nine_block h.res.blk
  rw [hr0] at k8
  obtain ⟨ba, off, ha, hbl, x0, x1, x2, x3, x4, x5⟩ := nds_at hI hk
  have hx : f.body.getD k ndU0 = f.body[k] := by simp [List.getD, hk]
  have hxo := hT _ (List.getElem_mem hk)
  rw [hx] at hv h22
  clear hx
  generalize f.body[k] = x at *
  obtain ⟨xk, xn, xa, xi, xt, xy⟩ := x
  simp only at *
  subst ha
  have hb1 := ba1 w (.cells #[.int .i64 xk, .int .i64 xn, .int .i64 xa, .int .i64 xi, .string xt, .string xy] 48)
  have hq1 := heap_alloc_new w (.cells #[.int .i64 xk, .int .i64 xn, .int .i64 xa, .int .i64 xi, .string xt, .string xy] 48)
  have HV := Lib.hid h
  have HI := Lib.hid hI
  have HR := Lib.hid hR
  have HO := Lib.hid hout
  have HVi := Lib.hid hv
  have HPs := Lib.hid hps
  have HXo := Lib.hid hxo
  clear h hI hR hout hv hps ih hT hbg hxo
  go_enter Tryd.func25, Tryd.ntmps25
  go_upto_block 0 with fail
  generalize w.alloc (.cells #[.int .i64 xk, .int .i64 xn, .int .i64 xa, .int .i64 xi, .string xt, .string xy] 48) = w1 at *
  have HV1 := Lib.hid (HV.out.below hb1)
  have HB1 := Lib.hid hb1
  have HQ1 := Lib.hid hq1
  obtain ⟨⟨y0, y1, y2, y3, y4, y5⟩, _⟩ := six_block hq1
  clear hb1 hq1 k0 k1 k2 k3 k4 k5 k6 k7 k8 x0 x1 x2 x3 x4 x5
  have hmv : w.heap.size < w1.heap.size := lt_of_heap HQ1.out
  go_cut [2] (fun v2 wx => Hid (CutV B fs f vp (.slice (some ⟨ba, off, none⟩) f.body.length cb) rb c mb mt p ov sv up fr (partsAt f.body fr k) w (visitN f.body fr fs k up s own r) v2 wx))
  case first =>
    by_cases h3 : xk = 3
    · subst h3
      have hop : opensN ⟨3, xn, xa, xi, xt, xy⟩ own = false := by unfold opensN; simp
      rw [hop] at HVi
      have hF := find11_ok xt w1 HV1.out.full (fun _ hk => hk) (HXo.out (.inl rfl))
      have hov := HV1.out.res.out
      rw [HO.out] at hov
      obtain ⟨g, cap, rfl, hgB, hgl, hcn, hcm, hgc, hgf⟩ := own_rowAt bnd_len hov HO.out.symm (i := k) (by rw [HO.out]; exact hk)
      clear hov
      rcases hfc : findC fs (s :: up) xt with _ | b
      · rw [hfc] at hF
        have HF := Lib.hid (show Calls Tryd.prog 39 #[.pointer (some ⟨c, 0, none⟩), .string xt] w1 (fun e w' => e = .returned (.tuple #[.agg #[.int .i64 0, .int .i64 0, .string ⟨#[]⟩], .bool false]) ∧ Below w1.heap.size w1 w') from hF)
        have HNm := Lib.hid (show nameR fs (s :: up) ⟨3, xn, xa, xi, xt, xy⟩ k r = (r.wrong xa 130).put k bnd0 by unfold nameR; rw [if_pos rfl, hfc])
        have HWr := Lib.hid (fun w2 (h : ResM B w2 rb f vp (.slice (some ⟨ba, off, none⟩) f.body.length cb) sv (.slice (some ⟨g, 0, none⟩) f.body.length cap) r) => wrong11_ok xa 130 w2 h)
        clear hF hfc
        go_upto_region 7 with (first
          | (go_at_call 39; (with_reducible refine HF.out.mono ?_); rintro e w2 ⟨rfl, hb2⟩; have hz12 := hb2.size; have HB2 := Lib.hid (hb2.alloc hb2.size (.cells #[.int .i64 0, .int .i64 0, .string ⟨#[]⟩] 50)); clear hb2; obtain ⟨⟨y0, y1, y2, y3, y4, y5⟩, _⟩ := six_block ((HB2.out.block _ (lt_of_heap HQ1.out)).trans HQ1.out))
          | (go_at_call 38; (refine (HWr.out _ (HV1.out.below HB2.out).res).mono ?_); rintro e w3 ⟨rfl, hr3, hb3, hk3, hz3⟩))
        have HS3 := Lib.hid ((((Stg.refl HV.out).next HB1.out).next HB2.out).rest hr3 hb3 hk3 (Nat.le_of_eq hz3.symm))
        have hz2 := heap_alloc_new w2 (.cells #[.int .i64 0, .int .i64 0, .string ⟨#[]⟩] 50)
        have hlz := lt_of_heap hz2
        obtain ⟨⟨z0, z1, z2⟩, _⟩ := three_block ((hk3 _ hlz (by show w2.heap.size ≠ rb; have := HV1.out.res.lt; omega)).trans hz2)
        obtain ⟨⟨k0, k1, k2, k3, k4, k5, k6, k7, k8⟩, _⟩ := nine_block hr3.blk
        have ho3 := hr3.out
        rw [(wrong_slots r xa 130).2, HO.out] at ho3
        obtain ⟨g3, cap3, hg3, _, _, _, _, hgc3, hgf3⟩ := own_rowAt bnd_len ho3 HO.out.symm (i := k) (by rw [HO.out]; exact hk)
        obtain ⟨rfl, _, rfl⟩ : g = g3 ∧ f.body.length = f.body.length ∧ cap = cap3 := by simpa using hg3
        have c0 := hgc3 0 _ rfl
        have c1 := hgc3 1 _ rfl
        have c2 := hgc3 2 _ rfl
        have f0 := hgf3 (k * 3)
        have f1 := hgf3 (k * 3 + 1)
        have f2 := hgf3 (k * 3 + 2)
        rw [Nat.add_zero] at c0
        clear k0 k1 k2 k3 k4 k5 k7 k8 hr3 hb3 hk3 hz3 hgc3 hgf3 hz2 hg3 hlz ho3 hz12
        go_region_law (fail)
        all_goals
          go_wp2_with fail
          go_meet
          exact Lib.hid (cutV_of ((HS3.out.put (b := bnd0) ((congrArg List.length (wrong_slots r xa 130).2).trans HO.out) hk).next (Below.refl _ _).drew) (HNm.out ▸ HR.out.name) (by show ((r.wrong xa 130).out.set k _).length = _; rw [List.length_set, (wrong_slots r xa 130).2]; exact HO.out) (by rw [HVi.out, if_neg (by decide), HNm.out]))
      · obtain ⟨bk, bi, bt⟩ := b
        rw [hfc] at hF
        have HF := Lib.hid (show Calls Tryd.prog 39 #[.pointer (some ⟨c, 0, none⟩), .string xt] w1 (fun e w' => e = .returned (.tuple #[.agg #[.int .i64 bk, .int .i64 bi, .string bt], .bool true]) ∧ Below w1.heap.size w1 w') from hF)
        have HNm := Lib.hid (show nameR fs (s :: up) ⟨3, xn, xa, xi, xt, xy⟩ k r = r.put k ⟨bk, bi, bt⟩ by unfold nameR; rw [if_pos rfl, hfc])
        clear hF hfc
        go_upto_region 7 with (go_at_call 39; (with_reducible refine HF.out.mono ?_); rintro e w2 ⟨rfl, hb2⟩; have HB2 := Lib.hid (hb2.alloc hb2.size (.cells #[.int .i64 bk, .int .i64 bi, .string bt] 50)); clear hb2)
        obtain ⟨⟨z0, z1, z2⟩, _⟩ := three_block (heap_alloc_new w2 (.cells #[.int .i64 bk, .int .i64 bi, .string bt] 50))
        generalize w2.alloc (.cells #[.int .i64 bk, .int .i64 bi, .string bt] 50) = w3 at *
        have HV3 := Lib.hid (HV1.out.below HB2.out)
        obtain ⟨⟨k0, k1, k2, k3, k4, k5, k6, k7, k8⟩, _⟩ := nine_block HV3.out.res.blk
        clear k0 k1 k2 k3 k4 k5 k7 k8
        have c0 := (HB2.out.cell (p := ⟨g, k * 3 + 0, none⟩) hgl).trans (hgc 0 _ rfl)
        have c1 := (HB2.out.cell (p := ⟨g, k * 3 + 1, none⟩) hgl).trans (hgc 1 _ rfl)
        have c2 := (HB2.out.cell (p := ⟨g, k * 3 + 2, none⟩) hgl).trans (hgc 2 _ rfl)
        have f0 := (HB2.out.frozen (p := ⟨g, k * 3 + 0, none⟩) hgl).trans (hgf _)
        have f1 := (HB2.out.frozen (p := ⟨g, k * 3 + 1, none⟩) hgl).trans (hgf _)
        have f2 := (HB2.out.frozen (p := ⟨g, k * 3 + 2, none⟩) hgl).trans (hgf _)
        rw [Nat.add_zero] at c0 f0
        go_region_law (fail)
        all_goals
          go_wp2_with fail
          go_meet
          exact Lib.hid (cutV_of (((((Stg.refl HV.out).next HB1.out).next HB2.out).put (b := ⟨bk, bi, bt⟩) HO.out hk).next (Below.refl _ _).drew) (HNm.out ▸ HR.out.name) (by show (r.out.set k _).length = _; rw [List.length_set]; exact HO.out) (by rw [HVi.out, if_neg (by decide), HNm.out]))
    · have HNm := Lib.hid (show nameR fs (s :: up) ⟨xk, xn, xa, xi, xt, xy⟩ k r = r by unfold nameR; rw [if_neg h3])
      rw [HNm.out] at HVi
      have HWi := Lib.hid (within11_ok (some ⟨c, 0, none⟩) w1)
      by_cases hop : opensN ⟨xk, xn, xa, xi, xt, xy⟩ own = true
      · rw [if_pos hop] at HVi
        have hop2 : (xk = 21 ∧ own = false) ∨ xk = 26 := by
          unfold opensN at hop
          simpa using hop
        rcases hop2 with ⟨rfl, rfl⟩ | rfl
        · go_wp2_with (go_at_call 23; (with_reducible refine HWi.out.mono ?_); rintro e w2 ⟨rfl, hs2, hb2, hz2⟩; have HS2 := Lib.hid hs2; have HB2 := Lib.hid hb2; clear hs2 hb2 hz2)
          go_meet
          exact Lib.hid (cutV_in hBw HB1.out HV1.out HS2.out HB2.out HR.out HO.out HVi.out)
        · go_wp2_with (go_at_call 23; (with_reducible refine HWi.out.mono ?_); rintro e w2 ⟨rfl, hs2, hb2, hz2⟩; have HS2 := Lib.hid hs2; have HB2 := Lib.hid hb2; clear hs2 hb2 hz2)
          go_meet
          exact Lib.hid (cutV_in hBw HB1.out HV1.out HS2.out HB2.out HR.out HO.out HVi.out)
      · rw [if_neg hop] at HVi
        have h26 : xk ≠ 26 := fun e => hop (by unfold opensN; simp [e])
        have hend := Lib.hid (show CutV B fs f vp (.slice (some ⟨ba, off, none⟩) f.body.length cb) rb c mb mt p ov sv up fr (partsAt f.body fr k) w (visitN f.body fr fs k up s own r) (.pointer (some ⟨c, 0, none⟩)) w1 from cutV_of ((Stg.refl HV.out).next HB1.out) HR.out HO.out HVi.out)
        by_cases h21 : xk = 21
        · subst h21
          obtain rfl : own = true := by
            cases own
            · exact absurd (by unfold opensN; simp) hop
            · rfl
          go_wp2_with fail
          go_meet
          exact hend
        · go_wp2_with fail
          go_meet
          exact hend
  case rest =>
    obtain ⟨c2, mb2, mt2, p2, sv2, up2, s2, r2, rfl, hv2, hR2, hl2, hb2, hfin⟩ := hcut.out
    clear hcut y0 y1 y2 y3 y4 y5 HVi HO HR
    have hAw : A ≤ wc.heap.size := by have := hv2.res.base; have := hv2.res.lt; omega
    have HP := Lib.hid (HPt.out wc hv2.res.lt hAw (nine_block hv2.res.blk).1.2.2.2.2.1 (HI.out.below hb2 hAB))
    have HV2 := Lib.hid hv2
    have HR2 := Lib.hid hR2
    have HL2 := Lib.hid hl2
    have HB2 := Lib.hid hb2
    have HFin := Lib.hid hfin
    clear hv2 hR2 hl2 hb2 hfin
    generalize partsAt f.body fr k = ps at *
    go_wp2_with (go_at_call 40; (with_reducible refine HP.out.mono ?_); rintro e w6 ⟨⟨v, rfl, hrow⟩, hb6⟩; obtain ⟨pa, pc, rfl, hrw⟩ := rowAt_of hrow; have HRw := Lib.hid hrw; have HB6 := Lib.hid hb6; clear hrow hb6 hrw)
    have HS0 := Lib.hid (show Stg B fs f vp (.slice (some ⟨ba, off, none⟩) f.body.length cb) wc w6 w6 rb c2 mb2 mt2 p2 ov sv2 sv2 up2 s2 r2 from ⟨HV2.out.below HB6.out, HB6.out.mono (by have := HV2.out.res.base; have := HV2.out.res.lt; omega), KeepU.refl _ _, Nat.le_refl _, fun _ e => .inl e⟩)
    go_loopg [111] ps.length (fun m v111 wy => ∃ (i : Nat) (sv3 : Value), m = ps.length - i ∧ i ≤ ps.length ∧ v111 = .int .i64 (i : Int) ∧ Hid (Stg B fs f vp (.slice (some ⟨ba, off, none⟩) f.body.length cb) wc w6 wy rb c2 mb2 mt2 p2 ov sv2 sv3 up2 (visitsN f.body fr fs (ps.take i) up2 s2 r2).2 (visitsN f.body fr fs (ps.take i) up2 s2 r2).1))
    case atStart => exact ⟨0, sv2, by omega, Nat.zero_le _, rfl, HS0⟩
    case round =>
      obtain ⟨i, sv3, hm, hi, rfl, HS⟩ := hrel
      by_cases hlt : i < ps.length
      · obtain ⟨pb, po, rfl, hpb, hpl6, hpc⟩ := HRw.out i hlt
        have hkp := (HS.out.keep pb hpl6 (fun hT => by
          have h1 := HV2.out
          rcases hT with e | e | e | e | e
          · have := h1.res.lt; omega
          · have := h1.sc.ents.lt; omega
          · have := h1.sc.taken.lt; omega
          · have := own_lt h1.res.slots e; omega
          · have := own_lt h1.res.out e; omega))
        have hpc := (World.cell?_of_block (a := ⟨pb, po + i, none⟩) hkp).trans hpc
        have hpk := HPs.out ps[i] (List.getElem_mem hlt)
        have HNx := Lib.hid (visits_take (t := f.body) (fr := fr) (fs := fs) ps i hlt up2 s2 r2)
        have hgr := grow_ns (t := f.body) (fr := fr) (fs := fs) (ps.take i) up2 s2 r2
        generalize visitsN f.body fr fs (ps.take i) up2 s2 r2 = q at *
        have HC := Lib.hid (HIh.out _ hpk wr c2 mb2 mt2 p2 ov sv3 up2 q.2 false q.1 HS.out.vis (HI.out.below (HB2.out.trans HS.out.below) hAB) (HR2.out.grow hgr) (hgr.2.2.2.1.trans HL2.out))
        generalize ps[i] = pi at *
        clear hkp hgr
        go_wp2_with (go_at_call 25; (with_reducible refine HC.out.mono ?_); rintro e w7 ⟨rfl, sv4, hs4⟩; have HS4 := Lib.hid (HS.out.visit hs4); clear hs4)
        go_roundg (ps.length - (i + 1))
        case measure => omega
        case rel => exact ⟨i + 1, sv4, rfl, hlt, by go_num, Lib.hid (by rw [HNx.out]; exact HS4.out)⟩
      · obtain rfl : i = ps.length := by omega
        rw [List.take_length] at HS
        go_wp2_with fail
        refine bodyPost_end (results_none rfl _ _ _) rfl ⟨rfl, ?_⟩
        exact HFin.out wr sv3 (HS.out.ahead HB6.out)
end Go.Proofs.YtbbaooeioogijaaDoor
