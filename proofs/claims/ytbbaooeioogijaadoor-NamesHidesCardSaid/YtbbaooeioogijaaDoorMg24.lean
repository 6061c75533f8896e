/- Where a part begins; a node's parts: the program. · A function gone over, step by step: what each step keeps. -/
import Derived.Test.YtbbaooeioogijaaDoorMg23
import Derived.Test.YtbbaooeioogijaaDoorMg11
namespace Go.Proofs.YtbbaooeioogijaaDoor
open Go.RowKit

theorem startE_add (fr : List Nat) : ∀ (n m e : Nat), startE fr (n + m) e = startE fr m (startE fr n e)
  | 0, m, e => by rw [Nat.zero_add]; rfl
  | n + 1, m, e => by rw [Nat.add_right_comm, startE, startE, startE_add fr n m]
theorem back_add {fr : List Nat} : ∀ {n m e : Nat}, Back fr n e → Back fr m (startE fr n e) → Back fr (n + m) e
  | 0, m, e, _, h => by rw [Nat.zero_add]; exact h
  | n + 1, m, e, ⟨h1, h2, h3⟩, h => by
    rw [Nat.add_right_comm]
    exact ⟨h1, h2, back_add h3 h⟩
/-- where the search for a part's beginning stands -/
structure BgInv (fr : List Nat) (k e l : Nat) : Prop where
  start : startE fr l e = fr.getD k 0
  back : Back fr l e
  le : e ≤ k
theorem BgInv.next {t : List Nd} {fr : List Nat} (hb : beginsN t = some fr) {k e l : Nat} (h : BgInv fr k (e + 1) (l + 1)) (hk : k < t.length) : ∃ n : Nat, (t[e]'(by have := h.le; omega)).n = (n : Int) ∧ BgInv fr k e (n + l) ∧ n ≤ e := by
  have he : e < t.length := by have := h.le; omega
  obtain ⟨h1, h2, _⟩ := (formed_of hb).node e _ (List.getElem?_eq_getElem he)
  have h3 := start_of hb (List.getElem?_eq_getElem he)
  have h4 := h.start
  have h5 := h.back
  rw [startE, Nat.add_sub_cancel] at h4
  obtain ⟨_, _, h6⟩ := h5
  rw [Nat.add_sub_cancel] at h6
  refine ⟨t[e].n.toNat, by omega, ⟨by rw [startE_add, h3, h4], back_add h2 (by rw [h3]; exact h6), by have := h.le; omega⟩, h2.le⟩
set_option maxRecDepth 100000 in
set_option maxHeartbeats 8000000 in
theorem begin11_ok {A rb : Nat} {ab : Option Addr} {cb : Nat} {t : List Nd} {fr : List Nat} (hb : beginsN t = some fr) (k : Nat) (hk : k < t.length) (hl : t.length ≤ 4096) (w : World) (hc : w.cell? ⟨rb, 4, none⟩ = some (.slice ab t.length cb)) (hI : IsNds A w ab t) :
    Calls Tryd.prog 51 #[.pointer (some ⟨rb, 0, none⟩), .int .i64 (k : Int)] w fun e w' => e = .returned (.int .i64 (fr.getD k 0 : Int)) ∧ w' = w := by
  have HI := Lib.hid hI
  have HN := Lib.hid (fun e l (h : BgInv fr k (e + 1) (l + 1)) => h.next hb hk)
  obtain ⟨hn0, hbk, _⟩ := (formed_of hb).node k _ (List.getElem?_eq_getElem hk)
  have hst := start_of hb (List.getElem?_eq_getElem hk)
  obtain ⟨ba, off, ha, hbl, x0, x1, x2, x3, x4, x5⟩ := nds_at hI hk
  subst ha
  clear x0 x2 x3 x4 x5 hI
  generalize t[k].n = xn at *
  obtain ⟨n, rfl⟩ : ∃ n : Nat, xn = (n : Int) := ⟨xn.toNat, by omega⟩
  rw [Int.toNat_natCast] at *
  have H0 := Lib.hid (show BgInv fr k k n from ⟨hst, hbk, Nat.le_refl _⟩)
  have hnk := hbk.le
  clear hbk hst hb
  go_enter Tryd.func51, Tryd.ntmps51
  go_wp2_with fail
  go_loopg [1, 5] k (fun m v1 v5 wy => ∃ e l : Nat, m = e ∧ v1 = .int .i64 (e : Int) ∧ v5 = .int .i64 (l : Int) ∧ Hid (BgInv fr k e l) ∧ wy = w)
  case atStart => exact ⟨k, n, rfl, rfl, rfl, H0, by trivial⟩
  case round =>
    obtain ⟨e, l, hm, rfl, rfl, HB, rfl⟩ := hrel
    have hle := HB.out.back.le
    have hek := HB.out.le
    cases l with
    | zero =>
      have hfin : (e : Int) = (fr.getD k 0 : Int) := by have := HB.out.start; rw [startE] at this; omega
      clear x1
      go_wp2_with fail
      go_ret
      exact ⟨(show Ending.returned (.int .i64 (e : Int)) = _ by rw [hfin]), by trivial⟩
    | succ l =>
      obtain ⟨d, rfl⟩ : ∃ d, e = d + 1 := ⟨e - 1, by omega⟩
      obtain ⟨q, hq, hqi, hqd⟩ := HN.out d l HB.out
      obtain ⟨ba', off', ha', hbl', c0, c1, c2, c3, c4, c5⟩ := nds_at HI.out (show d < t.length by omega)
      obtain ⟨rfl, rfl⟩ : ba = ba' ∧ off = off' := by simpa using ha'
      rw [hq] at c1
      have HQ := Lib.hid hqi
      clear c0 c2 c3 c4 c5 hqi hq ha' x1
      go_wp2_with fail
      go_roundg d
      case measure => omega
      case rel => exact ⟨d, q + l, rfl, rfl, by congr 1; omega, HQ, by trivial⟩
set_option maxRecDepth 100000 in
set_option maxHeartbeats 8000000 in
theorem parts11_ok {A rb : Nat} {ab : Option Addr} {cb : Nat} {t : List Nd} {fr : List Nat} (hb : beginsN t = some fr) (k : Nat) (hk : k < t.length) (hl : t.length ≤ 4096) (w : World) (hrb : rb < w.heap.size) (hA : A ≤ w.heap.size) (hc : w.cell? ⟨rb, 4, none⟩ = some (.slice ab t.length cb)) (hI : IsNds A w ab t) :
    Calls Tryd.prog 40 #[.pointer (some ⟨rb, 0, none⟩), .int .i64 (k : Int)] w (PartEnd (partsAt t fr k) w) := by
  have hf := formed_of hb
  obtain ⟨hn0, hbk, _⟩ := hf.node k _ (List.getElem?_eq_getElem hk)
  rw [partsAt_is (List.getElem?_eq_getElem hk)]
  have HB := Lib.hid (fun (d : Nat) (hd : d < t.length) w1 (h : Below w.heap.size w w1) => begin11_ok hb d hd hl w1 ((h.cell hrb).trans hc) (hI.below h hA))
  obtain ⟨ba, off, ha, hbl, x0, x1, x2, x3, x4, x5⟩ := nds_at hI hk
  subst ha
  clear x0 x2 x3 x4 x5
  clear hf hI
  generalize t[k].n = xn at *
  obtain ⟨n, rfl⟩ : ∃ n : Nat, xn = (n : Int) := ⟨xn.toNat, by omega⟩
  rw [Int.toNat_natCast] at *
  have hnk := hbk.le
  have HBk := Lib.hid hbk
  obtain ⟨i0, hi, hz0, hz1, hz2⟩ := info_parts infoInt
  have HI0 := Lib.hid (And.intro hi (And.intro hz0 (And.intro hz1 hz2)))
  have HNum := Lib.hid (show i0.bytes * n ≤ 281474976710656 ∧ n ≤ maxLen from ⟨by rw [hz2]; omega, by unfold maxLen; omega⟩)
  clear hi hz0 hz1 hz2 hbk hn0 hb
  go_enter Tryd.func40, Tryd.ntmps40
  go_wp2_with (at_make; go_loud (refine wpList_make_full _ rfl _ _ _ rfl w.heap.size 3 i0 (.int .i64 0) 1 Tryd.underlying103 HI0.out.1 HI0.out.2.1 HI0.out.2.2.1 .i64 .i64 (n : Int) (n : Int) n rfl rfl rfl rfl HNum.out.1 HNum.out.2 (Nat.le_refl _) ?_))
  intro w1 hown1 hgrow1
  have hb1 : Below w.heap.size w w1 := (Below.refl _ _).grown hgrow1 (Nat.le_refl _) (fun k hk => by simp at hk)
  have HP0 := Lib.hid (show PartInv w fr n k w1 n k [] from ⟨by simp, by simp, HBk.out, Nat.le_refl _, ⟨_, hown1, fun i x h => by simp at h⟩, hb1⟩)
  clear hown1 hgrow1 hb1 x1 hc
  go_wp2_with fail
  go_loopg [6, 7] n (fun m v6 v7 wy => ∃ (r e : Nat) (x y : Int) (tail : List Nat), m = r ∧ r ≤ n ∧ v7 = .int .i64 x ∧ v6 = .int .i64 y ∧ x = (r : Int) - 1 ∧ y = (e : Int) - 1 ∧ Hid (PartInv w fr n k wy r e tail))
  case atStart => exact ⟨n, k, _, _, [], rfl, Nat.le_refl _, rfl, rfl, rfl, rfl, HP0⟩
  case round =>
    obtain ⟨r, e, x, y, tail, hm, hrn, rfl, rfl, hx, hy, HP⟩ := hrel
    have hek := HP.out.le
    cases r with
    | zero =>
      have t1 : decide (0 ≤ x) = false := by simp; omega
      go_wp2_with fail
      go_ret
      exact partEnd HP.out.done (Below.refl _ _) HP.out.below
    | succ r =>
      obtain ⟨d, rfl⟩ : ∃ d, e = d + 1 := ⟨e - 1, by have := HP.out.back.1; omega⟩
      obtain rfl : x = (r : Int) := by omega
      obtain rfl : y = (d : Int) := by omega
      clear hx hy
      have t1 : decide (0 ≤ (r : Int)) = true := by simp
      obtain ⟨⟨u, c1⟩, c2⟩ := HP.out.cell
      have HN := Lib.hid HP.out.next
      have HBd := Lib.hid (HB.out d (by omega) _ HN.out.below)
      have hfd : fr.getD d 0 ≤ d := by have := HP.out.back.2.1; rw [Nat.add_sub_cancel] at this; omega
      generalize fr.getD d 0 = q at *
      go_wp2_with (go_at_call 51; (with_reducible refine HBd.out.mono ?_); rintro e w6 ⟨rfl, rfl⟩)
      go_roundg r
      case measure => omega
      case rel => exact ⟨r, q, _, _, d :: tail, rfl, by omega, rfl, rfl, by omega, by omega, HN⟩
end Go.Proofs.YtbbaooeioogijaaDoor
namespace Go.Proofs.YtbbaooeioogijaaDoor
open Go.RowKit Go.Maps

/-- a stage: what is found, all else as it was in w1 -/
structure Stg (B : Nat) (fs : FileN) (f : FnU) (vp vb : Value) (w w1 wx : World) (rb c mb mt : Nat) (p ov sv sv' : Value) (up : List ScN) (s : ScN) (r : ResN) : Prop where
  vis : VisM B fs f vp vb wx rb c mb mt p ov sv' up s r
  below : Below B w wx
  keep : KeepU w1 wx (VisT rb mb mt sv ov)
  size : w1.heap.size ≤ wx.heap.size
  moved : ∀ k, sv'.ownBlock = some k → sv.ownBlock = some k ∨ w1.heap.size ≤ k

section
variable {B : Nat} {fs : FileN} {f : FnU} {vp vb : Value} {w w1 wx w' : World} {rb c mb mt : Nat} {p ov sv sv' : Value} {up : List ScN} {s : ScN} {r r' : ResN}

theorem Stg.bLe (h : Stg B fs f vp vb w w1 wx rb c mb mt p ov sv sv' up s r) : B ≤ wx.heap.size := Nat.le_trans h.vis.res.base (Nat.le_of_lt h.vis.res.lt)
theorem Stg.next (h : Stg B fs f vp vb w w1 wx rb c mb mt p ov sv sv' up s r) (hb : Below wx.heap.size wx w') : Stg B fs f vp vb w w1 w' rb c mb mt p ov sv sv' up s r :=
  ⟨h.vis.below hb, h.below.trans (hb.mono h.bLe), h.keep.below h.size hb, Nat.le_trans h.size hb.size, h.moved⟩
theorem VisM.rest (h : VisM B fs f vp vb wx rb c mb mt p ov sv up s r) (hr : ResM B w' rb f vp vb sv ov r') (hk : KeepU wx w' (· = rb)) (hs : wx.heap.size ≤ w'.heap.size) : VisM B fs f vp vb w' rb c mb mt p ov sv up s r' :=
  h.next (fun k hk1 hT => hk k hk1 (fun e => hT (.inl e))) hs (fun _ e => .inl e) hr (h.sc.ents.move (hk _ h.sc.ents.lt (fun e => h.apart.1.1 e.symm))) (h.sc.taken.move (hk _ h.sc.taken.lt (fun e => h.apart.1.2 e.symm)))
theorem Stg.rest (h : Stg B fs f vp vb w w1 wx rb c mb mt p ov sv sv' up s r) (hr : ResM B w' rb f vp vb sv' ov r') (hb : Below B wx w') (hk : KeepU wx w' (· = rb)) (hs : wx.heap.size ≤ w'.heap.size) : Stg B fs f vp vb w w1 w' rb c mb mt p ov sv sv' up s r' :=
  ⟨h.vis.rest hr hk hs, h.below.trans hb, fun k hk1 hT => (hk k (Nat.lt_of_lt_of_le hk1 h.size) (fun e => hT (.inl e))).trans (h.keep k hk1 hT), Nat.le_trans h.size hs, h.moved⟩
theorem ResM.grown {row : Option Nat} (h : ResM B w rb f vp vb sv ov r) (hg : w.grownBy w' row) (h1 : some rb ≠ row) (h2 : ∀ k, sv.ownBlock = some k → some k ≠ row) (h3 : ∀ k, ov.ownBlock = some k → some k ≠ row) : ResM B w' rb f vp vb sv ov r := by
  refine ⟨(hg.block _ h.lt h1).trans h.blk, h.slots.kept hg ?_, h.out.kept hg ?_, h.base, h.apart⟩
  · cases hv : sv.ownBlock with
    | none => exact .inl rfl
    | some k => exact .inr (h2 k hv)
  · cases hv : ov.ownBlock with
    | none => exact .inl rfl
    | some k => exact .inr (h3 k hv)
theorem turned_below (hB : B ≤ wx.heap.size) {b : Nat} (hb : B ≤ b) (ht : wx.mapTurned w' b) : Below B wx w' := below_turnedU (Below.refl B wx) hB hb ht
theorem Stg.take (h : Stg B fs f vp vb w w1 wx rb c mb mt p ov sv sv' up s r) {n : ByteArray} (ht : wx.mapTurned w' mt) (hn : MapN w' mt (s.taken.length + 1) (cntB (n :: s.taken))) : Stg B fs f vp vb w w1 w' rb c mb mt p ov sv sv' up (s.take n) r := by
  have hg := ht.grown
  have hv := h.vis
  refine ⟨hv.next (fun k hk hT => hg.block k hk (fun e => hT (.inr (.inr (.inl (Option.some.inj e)))))) hg.size (fun _ e => .inl e) (hv.res.grown hg (fun e => hv.apart.1.2 (Option.some.inj e)) (fun k e1 e2 => (hv.apart.2.1 k e1).2 (Option.some.inj e2)) (fun k e1 e2 => (hv.apart.2.2 k e1).2 (Option.some.inj e2))) (hv.sc.ents.kept hg (fun e => hv.sc.ne.2.2 (Option.some.inj e))) hn, h.below.trans (turned_below h.bLe hv.sc.base.2.2 ht), fun k hk hT => (hg.block k (Nat.lt_of_lt_of_le hk h.size) (fun e => hT (.inr (.inr (.inl (Option.some.inj e)))))).trans (h.keep k hk hT), Nat.le_trans h.size hg.size, h.moved⟩
theorem Stg.bind (h : Stg B fs f vp vb w w1 wx rb c mb mt p ov sv sv' up s r) {n : ByteArray} {b : Bnd} (ht : wx.mapTurned w' mb) (hn : MapB w' mb (s.ents.length + 1) (fun t => if t = n then some b else entB s.ents t)) : Stg B fs f vp vb w w1 w' rb c mb mt p ov sv sv' up (s.bind n b) r := by
  have hg := ht.grown
  have hv := h.vis
  have hn' : MapB w' mb (s.bind n b).ents.length (entB (s.bind n b).ents) := hn.same fun t => by
    show _ = entB ((n, b) :: s.ents) t
    rw [entB_cons]
    by_cases e : t = n
    · subst e; simp
    · have e' : ¬ n = t := fun h => e h.symm
      simp [e, e']
  refine ⟨hv.next (fun k hk hT => hg.block k hk (fun e => hT (.inr (.inl (Option.some.inj e))))) hg.size (fun _ e => .inl e) (hv.res.grown hg (fun e => hv.apart.1.1 (Option.some.inj e)) (fun k e1 e2 => (hv.apart.2.1 k e1).1 (Option.some.inj e2)) (fun k e1 e2 => (hv.apart.2.2 k e1).1 (Option.some.inj e2))) hn' (hv.sc.taken.kept hg (fun e => hv.sc.ne.2.2 (Option.some.inj e.symm))), h.below.trans (turned_below h.bLe hv.sc.base.2.1 ht), fun k hk hT => (hg.block k (Nat.lt_of_lt_of_le hk h.size) (fun e => hT (.inr (.inl (Option.some.inj e))))).trans (h.keep k hk hT), Nat.le_trans h.size hg.size, h.moved⟩
/-- a slot more: the row grown, then put into its cell -/
theorem ResM.slot {v' : Value} {x : SlU} (h : ResM B wx rb f vp vb sv ov r) (hg : wx.grownBy w' sv.ownBlock) (ho : w'.ownsRow B 53 4 v' (r.slots.length + 1) (r.slots.flatMap slUCells ++ slUCells x)) (hv : ∀ k, v'.ownBlock = some k → sv.ownBlock = some k ∨ k = wx.heap.size) : ResM B (w'.setCell ⟨rb, 5, none⟩ v') rb f vp vb v' ov ⟨r.slots ++ [x], r.out, r.fault⟩ := by
  have hrb : w'.heap[rb]? = _ := (hg.block _ h.lt (fun e => (h.apart.1 rb e.symm).1 rfl)).trans h.blk
  have hov : w'.ownsRow B 50 3 ov r.out.length (r.out.flatMap bndCells) := h.out.kept hg (by
    cases hk : ov.ownBlock with
    | none => exact .inl rfl
    | some k => exact .inr (fun e => (h.apart.1 k e.symm).2 hk))
  have hne : ∀ k, v'.ownBlock = some k → k ≠ rb ∧ ov.ownBlock ≠ some k := fun k hk => by
    rcases hv k hk with e | e
    · exact h.apart.1 k e
    · have h1 := h.lt
      exact ⟨by omega, fun e2 => by have := own_lt h.out e2; omega⟩
  refine ⟨?_, row_setU ?_ _ _ (fun e => (hne rb e).1 rfl), row_setU hov _ _ (fun e => h.apart.2 rb e rfl), h.base, hne, h.apart.2⟩
  · simp [World.setCell, Array.getElem?_modify, hrb]
  · simp only [List.length_append, List.flatMap_append, List.length_cons, List.length_nil, List.flatMap_cons, List.flatMap_nil, List.append_nil]
    exact ho
theorem Stg.slot {v' : Value} {x : SlU} (h : Stg B fs f vp vb w w1 wx rb c mb mt p ov sv sv' up s r) (hg : wx.grownBy w' sv'.ownBlock) (ho : w'.ownsRow B 53 4 v' (r.slots.length + 1) (r.slots.flatMap slUCells ++ slUCells x)) (hv : ∀ k, v'.ownBlock = some k → sv'.ownBlock = some k ∨ k = wx.heap.size) : Stg B fs f vp vb w w1 (w'.setCell ⟨rb, 5, none⟩ v') rb c mb mt p ov sv v' up s ⟨r.slots ++ [x], r.out, r.fault⟩ := by
  have hvis := h.vis
  have hne : ∀ k, k < wx.heap.size → k ≠ rb → sv'.ownBlock ≠ some k → (w'.setCell ⟨rb, 5, none⟩ v').heap[k]? = wx.heap[k]? := fun k h1 h2 h3 => by
    rw [Below.heap_setCell _ _ _ _ h2]
    exact hg.block k h1 (fun e => h3 e.symm)
  have hsz : wx.heap.size ≤ (w'.setCell ⟨rb, 5, none⟩ v').heap.size := by have := hg.size; simpa using this
  refine ⟨hvis.next (fun k hk hT => hne k hk (fun e => hT (.inl e)) (fun e => hT (.inr (.inr (.inr (.inl e)))))) hsz (fun k e => (hv k e).imp id (fun e => by omega)) (hvis.res.slot hg ho hv) (hvis.sc.ents.move (hne _ hvis.sc.ents.lt (fun e => hvis.apart.1.1 e.symm) (fun e => (hvis.apart.2.1 _ e).1 rfl))) (hvis.sc.taken.move (hne _ hvis.sc.taken.lt (fun e => hvis.apart.1.2 e.symm) (fun e => (hvis.apart.2.1 _ e).2 rfl))), h.below.trans (((Below.refl B wx).grown hg h.bLe (fun k hk => (hvis.res.slots.lt k hk).1)).setCell (p := ⟨rb, 5, none⟩) hvis.res.base v'), fun k hk hT => (hne k (Nat.lt_of_lt_of_le hk h.size) (fun e => hT (.inl e)) (fun e => ?_)).trans (h.keep k hk hT), Nat.le_trans h.size hsz, fun k e => ?_⟩
  · rcases h.moved k e with e | e
    · exact hT (.inr (.inr (.inr (.inl e))))
    · omega
  · rcases hv k e with e | e
    · exact h.moved k e
    · exact .inr (by have := h.size; omega)
end
end Go.Proofs.YtbbaooeioogijaaDoor
