/- A slot made: the program. -/
import Derived.Test.YtbbaooeioogijaaDoorMg24
namespace Go.Proofs.YtbbaooeioogijaaDoor
open Go.RowKit Go.Maps

theorem cntB_pos (l : List ByteArray) (n : ByteArray) : (l.any fun q => decide (q = n)) = decide (0 < cntB l n) := by
  unfold cntB
  rw [Bool.eq_iff_iff, decide_eq_true_eq, List.any_eq_true]
  constructor
  · rintro ⟨q, hq, h⟩
    have := (List.countP_pos_iff (p := fun q => decide (q = n))).2 ⟨q, hq, h⟩
    omega
  · intro h
    have h : 0 < l.countP fun q => decide (q = n) := by omega
    exact List.countP_pos_iff.1 h
theorem int_wf {n : Int} (h0 : 0 ≤ n) (h : n < 1000) : (Lit.int .i64 n).wf = true := by
  have h1 : IntKind.i64.min = -9223372036854775808 := by decide
  have h2 : IntKind.i64.max = 9223372036854775807 := by decide
  simp only [Lit.wf, Bool.and_eq_true, decide_eq_true_eq, h1, h2]
  omega
theorem MapN.same {w : World} {b n : Nat} {f g : ByteArray → Int} (h : MapN w b n f) (e : ∀ s, f s = g s) : MapN w b n g := by
  obtain ⟨D, hD, hv⟩ := h
  exact ⟨D, hD, fun s => by rw [← e s]; exact hv s⟩
theorem cntB_cons (l : List ByteArray) (n t : ByteArray) : cntB (n :: l) t = if t = n then cntB l n + 1 else cntB l t := by
  unfold cntB
  rw [List.countP_cons]
  by_cases e : t = n
  · subst e; simp
  · have : ¬ n = t := fun h => e h.symm
    simp [e, this]
theorem cntB_le (l : List ByteArray) (n : ByteArray) : 0 ≤ cntB l n ∧ cntB l n ≤ l.length := by
  unfold cntB
  have := List.countP_le_length (p := fun q => decide (q = n)) (l := l)
  omega
theorem infoSl : (Tryd.prog.info? 53).map (fun i => (i.zero, i.size, i.bytes)) = some (some (.agg #[.string ⟨#[]⟩, .string ⟨#[]⟩, .bool false, .bool false]), 4, 40) := by kernel_rfl
def slUV (x : SlU) : Value := .agg #[.string x.name, .string x.type, .bool x.vol, .bool x.param]
theorem four_blockU {w : World} {b : Nat} {a0 a1 a2 a3 : Value} {T : TypeId} (h : w.heap[b]? = some (.cells #[a0, a1, a2, a3] T (0, 0))) :
    (w.cell? ⟨b, 0, none⟩ = some a0 ∧ w.cell? ⟨b, 1, none⟩ = some a1 ∧ w.cell? ⟨b, 2, none⟩ = some a2 ∧ w.cell? ⟨b, 3, none⟩ = some a3) ∧ ∀ j, w.frozen? ⟨b, j, none⟩ = false := by
  refine ⟨⟨?_, ?_, ?_, ?_⟩, fun j => ?_⟩ <;> simp [World.cell?, World.frozen?, h]
theorem Stg.old {B : Nat} {fs : FileN} {f : FnU} {vp vb : Value} {w w1 wx w' : World} {rb c mb mt : Nat} {p ov sv sv' : Value} {up : List ScN} {s : ScN} {r : ResN} (h : Stg B fs f vp vb w w1 wx rb c mb mt p ov sv sv' up s r) (hg : wx.grownBy w' sv'.ownBlock) : w'.cell? ⟨rb, 5, none⟩ = some sv' ∧ w'.frozen? ⟨rb, 5, none⟩ = false := by
  have hb := (hg.block _ h.vis.res.lt (fun e => (h.vis.res.apart.1 rb e.symm).1 rfl)).trans h.vis.res.blk
  obtain ⟨⟨_, _, _, _, _, k5, _⟩, kf⟩ := nine_block hb
  exact ⟨k5, kf 5⟩
theorem ResM.other {B : Nat} {w : World} {rb : Nat} {f : FnU} {vp vb sv ov : Value} {r : ResN} (h : ResM B w rb f vp vb sv ov r) (a : Addr) (h1 : rb ≠ a.block) (h2 : sv.ownBlock ≠ some a.block) (h3 : ov.ownBlock ≠ some a.block) (u : Value) : ResM B (w.setCell a u) rb f vp vb sv ov r :=
  ⟨by rw [Below.heap_setCell _ _ _ _ h1]; exact h.blk, row_setU h.slots _ _ h2, row_setU h.out _ _ h3, h.base, h.apart⟩
/-- what is handed out is written into a block of its own -/
theorem Stg.hand {B : Nat} {fs : FileN} {f : FnU} {vp vb : Value} {w w1 wx : World} {rb c mb mt q : Nat} {p ov sv sv' u0 u1 u2 : Value} {up : List ScN} {s s' : ScN} {r r' : ResN} (h0 : VisM B fs f vp vb w rb c mb mt p ov sv up s r) (hb : Below w.heap.size w w1) (h : Stg B fs f vp vb w w1 wx rb c mb mt p ov sv sv' up s' r') (hq : w.heap.size ≤ q) (hq2 : q < w1.heap.size) :
    (∃ sv', VisM B fs f vp vb ((((wx.setCell ⟨q, 0, none⟩ u0).setCell ⟨q, 1, none⟩ u1).setCell ⟨q, 2, none⟩ u2).drew) rb c mb mt p ov sv' up s' r' ∧ ∀ k, sv'.ownBlock = some k → sv.ownBlock = some k ∨ w.heap.size ≤ k) ∧ Below B w ((((wx.setCell ⟨q, 0, none⟩ u0).setCell ⟨q, 1, none⟩ u1).setCell ⟨q, 2, none⟩ u2).drew) ∧ KeepU w ((((wx.setCell ⟨q, 0, none⟩ u0).setCell ⟨q, 1, none⟩ u1).setCell ⟨q, 2, none⟩ u2).drew) (VisT rb mb mt sv ov) ∧ w.heap.size ≤ ((((wx.setCell ⟨q, 0, none⟩ u0).setCell ⟨q, 1, none⟩ u1).setCell ⟨q, 2, none⟩ u2).drew).heap.size := by
  have hB := h0.res.base
  have hrl := h0.res.lt
  have hml := h0.sc.ents.lt
  have htl := h0.sc.taken.lt
  have hsz := h.size
  have hbs := hb.size
  have hsl : ∀ k, sv.ownBlock = some k → k < w.heap.size := fun k e => own_lt h0.res.slots e
  have hol : ∀ k, ov.ownBlock = some k → k < w.heap.size := fun k e => own_lt h0.res.out e
  have hs' : sv'.ownBlock ≠ some q := fun e => by
    rcases h.moved q e with e | e
    · have := hsl q e; omega
    · omega
  have ho' : ov.ownBlock ≠ some q := fun e => by have := hol q e; omega
  have hk : KeepU w ((((wx.setCell ⟨q, 0, none⟩ u0).setCell ⟨q, 1, none⟩ u1).setCell ⟨q, 2, none⟩ u2).drew) (VisT rb mb mt sv ov) := fun k h1 hT => by
    have hne : k ≠ q := by omega
    show (((wx.setCell ⟨q, 0, none⟩ u0).setCell ⟨q, 1, none⟩ u1).setCell ⟨q, 2, none⟩ u2).heap[k]? = _
    rw [Below.heap_setCell _ _ _ _ hne, Below.heap_setCell _ _ _ _ hne, Below.heap_setCell _ _ _ _ hne]
    exact (h.keep k (by omega) hT).trans (hb.block k h1)
  have hz : w.heap.size ≤ ((((wx.setCell ⟨q, 0, none⟩ u0).setCell ⟨q, 1, none⟩ u1).setCell ⟨q, 2, none⟩ u2).drew).heap.size := by
    show _ ≤ (((wx.setCell ⟨q, 0, none⟩ u0).setCell ⟨q, 1, none⟩ u1).setCell ⟨q, 2, none⟩ u2).heap.size
    simp; omega
  have hv := h.vis
  have hbl := (((Below.refl B wx).setCell (p := ⟨q, 0, none⟩) (by show B ≤ q; omega) u0).setCell (p := ⟨q, 1, none⟩) (by show B ≤ q; omega) u1).setCell (p := ⟨q, 2, none⟩) (by show B ≤ q; omega) u2
  refine ⟨⟨sv', h0.next hk hz (fun k e => (h.moved k e).imp id (fun h => by omega)) ?_ ?_ ?_, fun k e => (h.moved k e).imp id (fun h => by omega)⟩, h.below.trans hbl.drew, hk, hz⟩
  · exact ((((hv.res.other ⟨q, 0, none⟩ (by show rb ≠ q; omega) hs' ho' u0).other ⟨q, 1, none⟩ (by show rb ≠ q; omega) hs' ho' u1).other ⟨q, 2, none⟩ (by show rb ≠ q; omega) hs' ho' u2).below (Below.refl _ _).drew)
  · exact (((hv.sc.ents.other ⟨q, 0, none⟩ (by show mb ≠ q; omega) u0).other ⟨q, 1, none⟩ (by show mb ≠ q; omega) u1).other ⟨q, 2, none⟩ (by show mb ≠ q; omega) u2).below (Below.refl _ _).drew
  · exact (((hv.sc.taken.other ⟨q, 0, none⟩ (by show mt ≠ q; omega) u0).other ⟨q, 1, none⟩ (by show mt ≠ q; omega) u1).other ⟨q, 2, none⟩ (by show mt ≠ q; omega) u2).below (Below.refl _ _).drew
set_option maxRecDepth 100000 in
set_option maxHeartbeats 8000000 in
theorem slot11_ok {B : Nat} {fs : FileN} {f : FnU} {vp vb : Value} {rb c mb mt : Nat} {p ov sv : Value} {up : List ScN} {s : ScN} {r : ResN} (x : SlU) (at_ : Int) (w : World) (h : VisM B fs f vp vb w rb c mb mt p ov sv up s r) (hB : B ≤ w.heap.size) (hsm : r.slots.length ≤ 300) (htk : s.taken.length ≤ 300) (hx : x.name.size ≤ maxLen) :
    Calls Tryd.prog 24 #[.pointer (some ⟨rb, 0, none⟩), .pointer (some ⟨c, 0, none⟩), slUV x, .int .i64 at_] w fun e w' => e = .returned (bndV (slotB r x)) ∧ (∃ sv', VisM B fs f vp vb w' rb c mb mt p ov sv' up (s.take x.name) (slotR r s x at_) ∧ ∀ k, sv'.ownBlock = some k → sv.ownBlock = some k ∨ w.heap.size ≤ k) ∧ Below B w w' ∧ KeepU w w' (VisT rb mb mt sv ov) ∧ w.heap.size ≤ w'.heap.size := by
  obtain ⟨av, cs, rfl⟩ := own_slice h.res.slots
  have HV := Lib.hid h
  have hcn := cntB_pos s.taken x.name
  have hcl := cntB_le s.taken x.name
  have hb0 := ba1 w (.cells #[.string x.name, .string x.type, .bool x.vol, .bool x.param] 53)
  have hb1 := hb0.alloc hb0.size (.cells #[.int .i64 0, .int .i64 0, .string ⟨#[]⟩] 50)
  have hxx : ((w.alloc (.cells #[.string x.name, .string x.type, .bool x.vol, .bool x.param] 53)).alloc (.cells #[.int .i64 0, .int .i64 0, .string ⟨#[]⟩] 50)).heap[w.heap.size]? = some (.cells #[.string x.name, .string x.type, .bool x.vol, .bool x.param] 53 (0, 0)) := ((ba1 _ _).block _ (lt_of_heap (heap_alloc_new w _))).trans (heap_alloc_new w _)
  have hxr : ((w.alloc (.cells #[.string x.name, .string x.type, .bool x.vol, .bool x.param] 53)).alloc (.cells #[.int .i64 0, .int .i64 0, .string ⟨#[]⟩] 50)).heap[w.heap.size + 1]? = some (.cells #[.int .i64 0, .int .i64 0, .string ⟨#[]⟩] 50 (0, 0)) := by
    have := heap_alloc_new (w.alloc (.cells #[.string x.name, .string x.type, .bool x.vol, .bool x.param] 53)) (.cells #[.int .i64 0, .int .i64 0, .string ⟨#[]⟩] 50)
    simpa using this
  have hs1 : ((w.alloc (.cells #[.string x.name, .string x.type, .bool x.vol, .bool x.param] 53)).alloc (.cells #[.int .i64 0, .int .i64 0, .string ⟨#[]⟩] 50)).heap.size = w.heap.size + 2 := by simp
  simp only [slUV]
  go_enter Tryd.func24, Tryd.ntmps24
  go_upto_region 1 with fail
  generalize (w.alloc (.cells #[.string x.name, .string x.type, .bool x.vol, .bool x.param] 53)).alloc (.cells #[.int .i64 0, .int .i64 0, .string ⟨#[]⟩] 50) = w1 at *
  have hV1 := h.below hb1
  have HV1 := Lib.hid hV1
  obtain ⟨⟨x0, x1, x2, x3⟩, _⟩ := four_blockU hxx
  obtain ⟨⟨k0, k1, k2⟩, _⟩ := three_block hV1.sc.blk
  have hl1 := fun m => (hV1.sc.taken.below (blw_drewN (Below.refl _ w1) m)).look hx
  have HX := Lib.hid hxx
  have HXr := Lib.hid hxr
  have HB1 := Lib.hid hb1
  clear h hb0 hb1 hxx hxr hV1
  go_quiet (fail)
  have HS2 := Lib.hid (show Stg B fs f vp vb w w1 (w1.drewN nq) rb c mb mt p ov (.slice av r.slots.length cs) (.slice av r.slots.length cs) up s r from ⟨HV1.out.below (blw_drewN (Below.refl _ _) _), (HB1.out.mono hB).trans ((blw_drewN (Below.refl _ w1) nq).mono (by have := HB1.out.size; omega)), (KeepU.refl w1 _).below (Nat.le_refl _) (blw_drewN (Below.refl _ _) _), (blw_drewN (Below.refl w1.heap.size w1) nq).size, fun k e => .inl e⟩)
  have HNt := Lib.hid (show ∀ k, w.heap.size ≤ k → ¬ VisT rb mb mt (.slice av r.slots.length cs) ov k from fun k hk hT => by
    have h1 := HV.out
    rcases hT with e | e | e | e | e
    · have := h1.res.lt; omega
    · have := h1.sc.ents.lt; omega
    · have := h1.sc.taken.lt; omega
    · have := own_lt h1.res.slots e; omega
    · have := own_lt h1.res.out e; omega)
  have HXk := Lib.hid (fun wx (h : KeepU w1 wx (VisT rb mb mt (.slice av r.slots.length cs) ov)) => four_blockU ((h _ (by omega) (HNt.out _ (Nat.le_refl _))).trans HX.out))
  have HRk := Lib.hid (fun wx (h : KeepU w1 wx (VisT rb mb mt (.slice av r.slots.length cs) ov)) => three_block ((h _ (by omega) (HNt.out (w.heap.size + 1) (Nat.le_succ _))).trans HXr.out))
  clear k0 k1 k2 x0 x1 x2 x3 hl1
  generalize w1.drewN nq = w2 at *
  go_upto_if 16 with fail
  go_cut [] (fun wx => Hid (Stg B fs f vp vb w w1 wx rb c mb mt p ov (.slice av r.slots.length cs) (.slice av r.slots.length cs) up s (if (s.taken.any fun q => decide (q = x.name)) = true then r.wrong at_ 6 else r)))
  case first =>
    by_cases hc : 0 < cntB s.taken x.name
    · have HW := Lib.hid (wrong11_ok at_ 6 w2 HS2.out.vis.res)
      have HC := Lib.hid (show (s.taken.any fun q => decide (q = x.name)) = true from hcn.trans (decide_eq_true hc))
      go_wp2_with (go_at_call 38; (with_reducible refine HW.out.mono ?_); rintro e w6 ⟨rfl, hr6, hb6, hk6, hz6⟩; have HS6 := Lib.hid (HS2.out.rest hr6 hb6 hk6 (Nat.le_of_eq hz6.symm)); clear hr6 hb6 hk6 hz6)
      go_meet
      exact Lib.hid (by rw [if_pos HC.out]; exact HS6.out)
    · have HC := Lib.hid (show ¬ (s.taken.any fun q => decide (q = x.name)) = true by rw [hcn]; simpa using hc)
      go_wp2_with fail
      go_meet
      exact Lib.hid (by rw [if_neg HC.out]; exact HS2.out)
  case rest =>
    have HS3 := hcut
    clear hcut
    obtain ⟨r1, hr1⟩ : ∃ r1, r1 = (if (s.taken.any fun q => decide (q = x.name)) = true then r.wrong at_ 6 else r) := ⟨_, rfl⟩
    rw [← hr1] at HS3
    have hr1s : r1.slots.length = r.slots.length := by rw [hr1]; split <;> simp [(wrong_slots r at_ 6).1]
    have HR1 := Lib.hid hr1
    clear hr1
    go_upto_region 3 with fail
    obtain ⟨⟨k0, k1, k2⟩, _⟩ := three_block HS3.out.vis.sc.blk
    obtain ⟨⟨x0, x1, x2, x3⟩, _⟩ := HXk.out wc HS3.out.keep
    have htk3 := HS3.out.vis.sc.taken.below ((Below.refl _ wc).drew)
    have hl3 := htk3.look hx
    obtain ⟨wz, hup, hmz, htz⟩ := htk3.store (by unfold maxLen; omega) hx (v := cntB s.taken x.name + 1) (int_wf (by have := hcl.1; omega) (by have := hcl.2; omega))
    have HSd := Lib.hid (HS3.out.next ((Below.refl _ wc).drew))
    have HMz := Lib.hid (hmz.same fun t => (cntB_cons s.taken x.name t).symm)
    have HTz := Lib.hid htz
    clear hmz htz htk3
    have hc0 := hcl.1
    have hc1 : cntB s.taken x.name ≤ 300 := by have := hcl.2; omega
    have hcw : IntKind.i64.wrap (cntB s.taken x.name + 1) = cntB s.taken x.name + 1 := by rw [IntKind.wrap_i64]; omega
    go_still_tail 8, (by kernel_rfl)
    change wpList _ _ _ _ _ wc.drew
    clear k0 k1 k2 x0 x1 x2 x3 hl3
    have HS4 := Lib.hid (HSd.out.take HTz.out HMz.out)
    go_upto_region 4 with fail
    clear hup hc0 hc1 hcw
    clear HS3 HSd HMz HTz HS2 HV1
    obtain ⟨⟨k0, k1, k2, k3, k4, k5, k6, k7, k8⟩, _⟩ := nine_block HS4.out.vis.res.blk
    have hrs : slotW r s x.name at_ = if 256 ≤ r1.slots.length then r1.wrong at_ 3 else r1 := by rw [HR1.out]; rfl
    have HRs := Lib.hid hrs
    clear hrs k0 k1 k2 k3 k4 k6 k7 k8
    go_upto_if 33 with fail
    go_cut [] (fun wx => Hid (Stg B fs f vp vb w w1 wx rb c mb mt p ov (.slice av r.slots.length cs) (.slice av r.slots.length cs) up (s.take x.name) (slotW r s x.name at_)))
    case first =>
      by_cases hc : 256 ≤ r.slots.length
      · have HW := Lib.hid (wrong11_ok at_ 3 wz HS4.out.vis.res)
        have HC := Lib.hid (show 256 ≤ r1.slots.length by omega)
        have t1 : (256 : Int) ≤ (r.slots.length : Int) := by omega
        go_wp2_with (go_at_call 38; (with_reducible refine HW.out.mono ?_); rintro e w6 ⟨rfl, hr6, hb6, hk6, hz6⟩; have HS6 := Lib.hid (HS4.out.rest hr6 hb6 hk6 (Nat.le_of_eq hz6.symm)); clear hr6 hb6 hk6 hz6)
        go_meet
        exact Lib.hid (by rw [HRs.out, if_pos HC.out]; exact HS6.out)
      · have HC := Lib.hid (show ¬ 256 ≤ r1.slots.length by omega)
        have t1 : (r.slots.length : Int) < (256 : Int) := by omega
        go_wp2_with fail
        go_meet
        exact Lib.hid (by rw [HRs.out, if_neg HC.out]; exact HS4.out)
    case rest =>
      have HS5 := hcut
      have hr2 := (slotW_slots r s x.name at_).1
      have HRR := Lib.hid (show slotR r s x at_ = ⟨(slotW r s x.name at_).slots ++ [x], (slotW r s x.name at_).out, (slotW r s x.name at_).fault⟩ from rfl)
      generalize slotW r s x.name at_ = r2 at *
      have hl2 : r2.slots.length = r.slots.length := by rw [hr2]
      clear hcut k5 HS4 HRs hr2
      obtain ⟨⟨k0, k1, k2, k3, k4, k5, k6, k7, k8⟩, _⟩ := nine_block HS5.out.vis.res.blk
      obtain ⟨⟨x0, x1, x2, x3⟩, _⟩ := HXk.out wc HS5.out.keep
      have hrz := HS5.out.vis.res.lt
      have hxz : w.heap.size < wc.heap.size := by have := HS5.out.size; omega
      have hBz := HS5.out.bLe
      have hss := HS5.out.vis.res.slots
      rw [hl2] at hss
      have HSs := Lib.hid hss
      obtain ⟨i0, hi, hz0, hz1', hz2'⟩ := info_parts infoSl
      have HIn := Lib.hid (And.intro hi (And.intro hz0 (And.intro hz1' hz2')))
      have HBig := Lib.hid (show Below wc.heap.size wc (wc.alloc (.cells #[.string x.name, .string x.type, .bool x.vol, .bool x.param] 53)).drew from ((Below.refl _ _).alloc (Nat.le_refl _) _).drew)
      have HS6 := Lib.hid (HS5.out.next HBig.out)
      clear hi hz0 hz1' hz2' hss k0 k1 k2 k3 k4 k6 k7 k8
      go_upto_region 6 with fail
      go_cut [] (fun wx => ∃ sv', Hid (Stg B fs f vp vb w w1 wx rb c mb mt p ov (.slice av r.slots.length cs) sv' up (s.take x.name) (slotR r s x at_)))
      case first =>
        go_region_law ((refine step_append_lies _ (by rfl) _ _ _ (by rfl) B 53 i0 _ 4 40 Tryd.underlying28 HIn.out.1 HIn.out.2.1 HIn.out.2.2.1 HIn.out.2.2.2 rfl (by omega) (.slice av r.slots.length cs) r.slots.length (r2.slots.flatMap slUCells) (by rfl) (HSs.out.belowed HBig.out) ⟨wc.heap.size, 0, none⟩ 1 1 (slUCells x) (by rfl) (by rfl) (World.news_of_block (cs := #[.string x.name, .string x.type, .bool x.vol, .bool x.param]) (t := 53) (fr := (0, 0)) (heap_alloc_new wc _)) (by simp [slUCells, Value.oneCell']) (by omega) (by unfold maxLen; omega) (by omega) (by simp; omega) (wc.heap.size + 1) (by simp) ?_; intro gg cpp w9 hown hgrow hat hlt9; have j0 := (HS6.out.old hgrow).1; have jf := (HS6.out.old hgrow).2))
        all_goals
          have HS9 := Lib.hid (HS6.out.slot (x := x) hgrow (by rw [hl2]; exact hown) (fun k hk => (own_grewU hat hk).imp id (fun e => e.trans (by simp))))
          clear hown hgrow hat hlt9 j0 jf
          go_wp2_with fail
          go_meet
          exact ⟨_, Lib.hid (by rw [HRR.out]; exact HS9.out)⟩
      case rest =>
        obtain ⟨sv', HS7⟩ := hcut
        have hl7 : (slotR r s x at_).slots.length = r.slots.length + 1 := by
          have := (slotW_slots r s x.name at_).1
          unfold slotR
          simp [this]
        have hs7 := HS7.out.vis.res.slots
        rw [hl7] at hs7
        obtain ⟨av7, cs7, rfl⟩ := own_slice hs7
        clear hs7 k5 x0 x1 x2 x3 HS5 HS6 HSs HIn HBig HRR hl2 hl7
        obtain ⟨⟨k0, k1, k2, k3, k4, k5, k6, k7, k8⟩, _⟩ := nine_block HS7.out.vis.res.blk
        obtain ⟨⟨x0, x1, x2, x3⟩, _⟩ := HXk.out wc HS7.out.keep
        obtain ⟨⟨d0, d1, d2⟩, fd⟩ := HRk.out wc HS7.out.keep
        have fd0 := fd 0
        have fd1 := fd 1
        have fd2 := fd 2
        have hw7 : IntKind.i64.wrap ((r.slots.length : Int) + 1 - 1) = (r.slots.length : Int) := by rw [IntKind.wrap_i64]; omega
        have hw8 : IntKind.i64.wrap (r.slots.length : Int) = (r.slots.length : Int) := by rw [IntKind.wrap_i64]; omega
        have hww : w.heap.size + 1 < wc.heap.size := by have := HS7.out.size; omega
        have HKn := Lib.hid (show ∀ u0 u1 u2, KeepU wc (((wc.setCell ⟨w.heap.size + 1, 0, none⟩ u0).setCell ⟨w.heap.size + 1, 1, none⟩ u1).setCell ⟨w.heap.size + 1, 2, none⟩ u2) (· = w.heap.size + 1) from fun u0 u1 u2 => (((KeepU.refl wc (fun k => k = w.heap.size + 1)).set ⟨w.heap.size + 1, 0, none⟩ u0 rfl).set ⟨w.heap.size + 1, 1, none⟩ u1 rfl).set ⟨w.heap.size + 1, 2, none⟩ u2 rfl)
        clear k0 k1 k2 k3 k4 k6 k7 k8 x0 x2 x3 fd
        go_upto_region 7 with fail
        go_region_law (fail)
        all_goals
          go_wp2_with fail
          exact bodyPost_ret (v := bndV (slotB r x)) (by simp [results, Tryd.results24, go_sem, d0, d1, d2, bndV, slotB]) rfl ⟨rfl, Stg.hand HV.out HB1.out HS7.out (Nat.le_succ _) (by omega)⟩
end Go.Proofs.YtbbaooeioogijaaDoor

