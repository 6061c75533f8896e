/- What a function uses of its file: the program. -/
import Derived.RangeFuncFrom
import Derived.RangeFuncBox
import Derived.OwnWalkIn
import Derived.Shelf.RegionOpen
import Derived.Test.YtbbaooeioogijaaDoorMg29
import Derived.Test.YtbbaooeioogijaaDoorMg31
import Derived.Test.YtbbaooeioogijaaDoorMg30
namespace Go.Proofs.YtbbaooeioogijaaDoor
open Go.RowKit Go.Shelf Go.Maps

attribute [local go_sem] Oper.semAt_some

/-- the names of the file that a function uses -/
def usesF (f : FnU) (o : List Bnd) : List ByteArray := usesN f.body ((beginsN f.body).getD []) o
def UsesEnd (u : UnU) (n : ByteArray) (w : World) (e : Ending) (w' : World) : Prop := Below w.heap.size w w' ∧ match resolveN u n with
  | .inl p => e = .returned (.tuple #[.slice none 0 0, .agg #[.int .i64 p.1, .int .i64 p.2]])
  | .inr q => ∃ v, e = .returned (.tuple #[v, .agg #[.int .i64 q.1.fault.1, .int .i64 q.1.fault.2]]) ∧ w'.ownsRow w.heap.size 9 1 v (usesF q.2.1 q.1.out).length ((usesF q.2.1 q.1.out).map .string)
/-- the names so far -/
def usedD {t : List Nd} (o : List Bnd) (l : List (Elt t)) : List ByteArray := dedupL (usedL t o ((elts l).map Prod.fst)) []
theorem usedD_snoc {t : List Nd} (o : List Bnd) (l : List (Elt t)) (x : Elt t) : usedD o (l ++ [x]) = if ((t.getD x.1.1 ndU0).kind = 3 ∧ ofFile (o.getD x.1.1 bnd0) = true) then addL (usedD o l) (t.getD x.1.1 ndU0).text else usedD o l := by
  unfold usedD
  rw [elts_app, List.map_append]
  have e : usedL t o ((elts l).map Prod.fst ++ (elts [x]).map Prod.fst) = usedL t o ((elts l).map Prod.fst) ++ usedL t o [x.1.1] := by
    unfold usedL
    rw [List.filter_append, List.map_append]
    rfl
  rw [e, dedupL_append]
  generalize dedupL (usedL t o ((elts l).map Prod.fst)) [] = L
  unfold usedL
  rw [List.filter_cons]
  by_cases h : (t.getD x.1.1 ndU0).kind = 3 ∧ ofFile (o.getD x.1.1 bnd0) = true
  · rw [if_pos h, if_pos (by rw [Bool.and_eq_true, decide_eq_true_eq]; exact h)]
    rfl
  · rw [if_neg h, if_neg (by rw [Bool.and_eq_true, decide_eq_true_eq]; exact h)]
    rfl
theorem usedD_le {t : List Nd} (o : List Bnd) (l : List (Elt t)) : (usedD o l).length ≤ l.length := by
  unfold usedD
  have h1 := dedupL_le (usedL t o ((elts l).map Prod.fst)) []
  have h2 : (usedL t o ((elts l).map Prod.fst)).length ≤ ((elts l).map Prod.fst).length := by
    unfold usedL
    rw [List.length_map]
    exact List.length_filter_le ..
  rw [List.length_map, elts_len] at h2
  simp only [List.length_nil, Nat.zero_add] at h1
  omega
theorem one_blockU {w : World} {b : Nat} {v : Value} {T : TypeId} (h : w.heap[b]? = some (.cells #[v] T (0, 0))) : w.cell? ⟨b, 0, none⟩ = some v ∧ w.frozen? ⟨b, 0, none⟩ = false := by
  constructor <;> simp [World.cell?, World.frozen?, h]
/-- what is so behind what went over the function -/
structure UseAt (f : FnU) (r : ResN) (rb : Nat) (w2 W3 : World) (ab : Option Addr) (cb : Nat) (B : Nat) (vp sv ov : Value) : Prop where
  y0 : W3.cell? ⟨w2.heap.size + 1, 0, none⟩ = some (.int .i64 r.fault.1)
  y1 : W3.cell? ⟨w2.heap.size + 1, 1, none⟩ = some (.int .i64 0)
  yp : W3.heap[w2.heap.size]? = some (.cells #[.pointer (some ⟨rb, 0, none⟩)] 67 (0, 0))
  res : ResM B W3 rb f vp (.slice ab f.body.length cb) sv ov r
  below : Below w2.heap.size w2 W3
  nds : IsNds B W3 ab f.body
  walk : Calls Tryd.prog 21 #[.slice ab f.body.length cb] W3 fun e w' => (∃ (bw : Nat) (fr : List Nat), e = .returned (.tuple #[.func (.func 35) #[] #[.pointer (some ⟨bw, 0, none⟩)], .int .i64 0]) ∧ beginsN f.body = some fr ∧ Given f.body fr ∧ SeqAt f.body fr W3.heap.size w' bw) ∧ Below W3.heap.size W3 w'
  size : W3.heap.size = w2.heap.size + 2
theorem use_at {u : UnU} {n : ByteArray} {fs : FileN} {f : FnU} {r : ResN} {w2 : World} {rb B : Nat} {vp vb sv ov : Value} (hE : TE w2) (hfile : fileN u = .inr fs) (hbody : bodyOf fs n = some f) (hBw : B ≤ w2.heap.size) (hR : ResM B w2 rb f vp vb sv ov r) (hF : IsFnU B w2 f vp vb) :
    ∃ ab cb, vb = .slice ab f.body.length cb ∧ UseAt f r rb w2 ((w2.alloc (.cells #[.pointer (some ⟨rb, 0, none⟩)] 67)).alloc (.cells #[.int .i64 r.fault.1, .int .i64 0] 32)) ab cb B vp sv ov := by
  have hb3 := (ba1 w2 (.cells #[.pointer (some ⟨rb, 0, none⟩)] 67)).alloc (ba1 w2 (.cells #[.pointer (some ⟨rb, 0, none⟩)] 67)).size (.cells #[.int .i64 r.fault.1, .int .i64 0] 32)
  have hyy := heap_alloc_new (w2.alloc (.cells #[.pointer (some ⟨rb, 0, none⟩)] 67)) (.cells #[.int .i64 r.fault.1, .int .i64 0] 32)
  have hyp := ((ba1 (w2.alloc (.cells #[.pointer (some ⟨rb, 0, none⟩)] 67)) (.cells #[.int .i64 r.fault.1, .int .i64 0] 32)).block _ (lt_of_heap (heap_alloc_new w2 (.cells #[.pointer (some ⟨rb, 0, none⟩)] 67)))).trans (heap_alloc_new w2 (.cells #[.pointer (some ⟨rb, 0, none⟩)] 67))
  have hsz : ((w2.alloc (.cells #[.pointer (some ⟨rb, 0, none⟩)] 67)).alloc (.cells #[.int .i64 r.fault.1, .int .i64 0] 32)).heap.size = w2.heap.size + 2 := by simp
  rw [World.size_alloc] at hyy
  generalize (w2.alloc (.cells #[.pointer (some ⟨rb, 0, none⟩)] 67)).alloc (.cells #[.int .i64 r.fault.1, .int .i64 0] 32) = W3 at *
  obtain ⟨ab, cb, rfl, hob, hsb, hno⟩ := (hF.below (hb3.mono hBw) (Nat.le_refl _)).body
  obtain ⟨_, _, _, _, _, hget, _, hne⟩ := bodyOf_some (file_ok hfile) hbody
  have hck := ((funcE_0 (file_funcs hfile f (List.mem_of_getElem? hget)).2).2.resolve_left hne).1
  obtain ⟨⟨y0, y1⟩, _⟩ := two_block hyy
  exact ⟨ab, cb, rfl, y0, y1, hyp, hR.below hb3, hb3, hsb, treeWalk_0 ab cb f.body W3 (hE.below hb3) (hsb.mono (Nat.le_trans hBw hb3.size)) hno hob.1 (fun e => ⟨List.eq_nil_of_length_eq_zero (hob.2.2.2 e).1, (hob.2.2.2 e).2⟩) hck, hsz⟩
theorem contains_ownU {B : Nat} {w : World} {v : Value} {L : List ByteArray} (x : ByteArray) (h : w.ownsRow B 9 1 v L.length (L.map .string)) (hl : L.length ≤ 4096) : Calls Tryd.prog 22 #[v, .string x] w fun e w' => e = .returned (.bool (Lib.containsS L x)) ∧ w' = w := by
  obtain ⟨a, c, rfl⟩ := own_slice h
  by_cases h0 : L = []
  · subst h0
    have := Tryd.slices_Contains_string_empty a c x w
    exact this
  · have hlen := List.length_pos_iff.2 h0
    have hL : L.map Value.string = L.flatMap fun s => [Value.string s] := List.map_eq_flatMap
    rw [hL] at h
    obtain ⟨g, cap, e, _, _, _, _, hgc, _⟩ := own_rowAt (k := 1) (cells := fun s => [Value.string s]) (fun _ => rfl) h rfl (i := 0) hlen
    obtain ⟨rfl, _, rfl⟩ : a = some ⟨g, 0, none⟩ ∧ L.length = L.length ∧ c = cap := by simpa using e
    have := Tryd.slices_Contains_string g 0 L.length c L x w (Nat.le_refl _) (by omega) (fun j hj => by
      have := own_cell (k := 1) (cells := fun s => [Value.string s]) (fun _ => rfl) h (List.getElem?_eq_getElem hj) (j := 0) rfl
      rw [Nat.mul_one, Nat.add_zero] at this
      rw [Nat.zero_add, this, List.getD_eq_getElem?_getD, List.getElem?_eq_getElem hj]
      rfl)
    rw [List.take_length] at this
    exact this
theorem keepR_appended {bn : Nat} {W w1 : World} {tmp : Obj} {v v' : Value} {T : TypeId} (hv : Boxed W bn T v) (hv' : Boxed (w1.setCell ⟨bn, 0, none⟩ v') bn T v') (hg : (W.alloc tmp).grownBy w1 v.ownBlock) (hat : ∀ g, v'.ownBlock = some g → v.ownBlock = some g ∨ g = (W.alloc tmp).heap.size) (hlt : ∀ g, v'.ownBlock = some g → g < w1.heap.size) : KeepR bn W (w1.setCell ⟨bn, 0, none⟩ v') := by
  have hsz := hg.size
  have hb := hv.lt
  have hr : rowB bn W = v.ownBlock := by unfold rowB; rw [hv.cell]; rfl
  have hr' : rowB bn (w1.setCell ⟨bn, 0, none⟩ v') = v'.ownBlock := by unfold rowB; rw [hv'.cell]; rfl
  rw [World.size_alloc] at hsz
  refine ⟨hg.os, hg.tape, hg.output, by simp; omega, fun ho => ⟨⟨by rw [hv'.cell]; rfl, fun g e => ?_⟩, fun k o hk hrk ho2 _ => ?_, fun g e => ?_⟩⟩
  · rw [hr'] at e
    have h2 := hlt g e
    refine ⟨?_, by simpa using h2⟩
    rcases hat g e with h1 | h1
    · exact (ho.2 g (by rw [hr]; exact h1)).1
    · rw [World.size_alloc] at h1; omega
  · have hlk := lt_of_heap ho2
    rw [Below.heap_setCell _ _ _ _ (show k ≠ bn from hk), hg.block k (by simp; omega) (fun e => hrk (by rw [hr, e]))]
    rw [Below.heap_alloc _ _ _ hlk]
    exact ho2
  · rw [hr'] at e
    rw [hr]
    rcases hat g e with h1 | h1
    · exact .inl h1
    · exact .inr (by rw [h1, World.size_alloc]; omega)
theorem gone_len (fs : FileN) (f : FnU) : (goneR fs f).out.length = f.body.length := by
  unfold goneR
  simp only
  rw [(grow_n _ _ _ _ _).2.2.2.1, (parms_len _ _ _ _).2.1]
  simp
set_option maxRecDepth 100000 in
set_option maxHeartbeats 16000000 in
theorem uses11_ok (u : UnU) (vs vg vf : Value) (n : ByteArray) (w : World) (hE : TE w) (hU : IsUn w.heap.size w u vs vg vf) (hn : n.size ≤ maxLen) :
    Calls Tryd.prog 13 #[.agg #[vs, vg, vf], .string n] w (UsesEnd u n w) := by
  have hdd : ∀ k : Nat, (Fence.wide.depth.isSome = true → 1 ≤ k) := fun k h => by cases h
  obtain ⟨sa, sc, mv, rfl, _⟩ := hU.structs
  obtain ⟨ag, cg, rfl, _⟩ := glsU_len hU.globals
  obtain ⟨af, cf, rfl, _⟩ := fnsU_len hU.funcs
  have HE := Lib.hid hE
  have hb1 := (ba1 w (.cells #[.slice sa u.structs.length sc, .slice ag u.globals.length cg, .slice af u.funcs.length cf] 26)).alloc (ba1 w (.cells #[.slice sa u.structs.length sc, .slice ag u.globals.length cg, .slice af u.funcs.length cf] 26)).size (.cells #[.int .i64 0, .int .i64 0] 32)
  have hxq : ((w.alloc (.cells #[.slice sa u.structs.length sc, .slice ag u.globals.length cg, .slice af u.funcs.length cf] 26)).alloc (.cells #[.int .i64 0, .int .i64 0] 32)).heap[w.heap.size]? = some (.cells #[.slice sa u.structs.length sc, .slice ag u.globals.length cg, .slice af u.funcs.length cf] 26 (0, 0)) := ((ba1 _ _).block _ (lt_of_heap (heap_alloc_new w _))).trans (heap_alloc_new w _)
  have hxr : ((w.alloc (.cells #[.slice sa u.structs.length sc, .slice ag u.globals.length cg, .slice af u.funcs.length cf] 26)).alloc (.cells #[.int .i64 0, .int .i64 0] 32)).heap[w.heap.size + 1]? = some (.cells #[.int .i64 0, .int .i64 0] 32 (0, 0)) := by
    have := heap_alloc_new (w.alloc (.cells #[.slice sa u.structs.length sc, .slice ag u.globals.length cg, .slice af u.funcs.length cf] 26)) (.cells #[.int .i64 0, .int .i64 0] 32)
    simpa using this
  obtain ⟨w1, hw1⟩ : ∃ w1, w1 = (w.alloc (.cells #[.slice sa u.structs.length sc, .slice ag u.globals.length cg, .slice af u.funcs.length cf] 26)).alloc (.cells #[.int .i64 0, .int .i64 0] 32) := ⟨_, rfl⟩
  have HRs := Lib.hid ((resolved11_ok u _ _ _ n w1 (by rw [hw1]; exact hE.below hb1) (by rw [hw1]; exact hU.go hb1) hn).mono fun e w' h => rsvEnd_two h)
  rw [hw1] at HRs
  clear hw1 w1
  obtain ⟨⟨q0, q1, q2⟩, _⟩ := three_block hxq
  have HB1 := Lib.hid hb1
  have HR := Lib.hid (fun w' (h : Below ((w.alloc (.cells #[.slice sa u.structs.length sc, .slice ag u.globals.length cg, .slice af u.funcs.length cf] 26)).alloc (.cells #[.int .i64 0, .int .i64 0] 32)).heap.size ((w.alloc (.cells #[.slice sa u.structs.length sc, .slice ag u.globals.length cg, .slice af u.funcs.length cf] 26)).alloc (.cells #[.int .i64 0, .int .i64 0] 32)) w') => two_block ((h.block _ (lt_of_heap hxr)).trans hxr))
  have HX := Lib.hid hxr
  clear hxq hxr hU hE hb1
  refine (callsIn_wide (n := 3)).1 ?_
  refine callsIn_of_wp_marks Tryd.func13 rfl trivial ?_ rfl
  simp only [Tryd.ntmps13, List.size_toArray, List.length_cons, List.length_nil, Nat.reduceAdd, Nat.reduceSub, Array.replicate_succ, Array.replicate_zero, List.push_toArray, List.append_toArray, List.nil_append, List.cons_append]
  gi_wp2_with ((first | refine ⟨trivial, hdd _, ?_⟩ | refine ⟨trivial, ?_⟩); (first
    | (gi_at_call 15; refine (callsIn_wide.2 HRs.out).mono ?_; rintro e w2 ⟨hb2, ⟨a, b, p, rfl, hp, hres⟩ | ⟨rb, b, f, fs, B, vp, vb, sv, ov, rfl, hp, hres, hfile, hbody, hwB, hBw, hRM, hFn⟩⟩ <;> first
        | (have HP := Lib.hid (show resolveN u n = .inl p from hres)
           have t1 : (p.2 != 0) = true := by simpa using hp
           have HB2 := Lib.hid ((hb2.alloc hb2.size (.cells #[.pointer a] 67)).alloc (hb2.alloc hb2.size (.cells #[.pointer a] 67)).size (.cells #[.int .i64 p.1, .int .i64 p.2] 32))
           obtain ⟨⟨d0, d1⟩, fd⟩ := HR.out _ HB2.out
           have fd0 := fd 0
           have fd1 := fd 1
           have hyy := two_block (heap_alloc_new (w2.alloc (.cells #[.pointer a] 67)) (.cells #[.int .i64 p.1, .int .i64 p.2] 32))
           rw [World.size_alloc] at hyy
           obtain ⟨⟨y0, y1⟩, _⟩ := hyy
           clear hb2 hp hres fd q0 q1 q2)
        | (have HP := Lib.hid hres
           have HB2 := Lib.hid hb2
           obtain ⟨ab, cb, rfl, hua⟩ := use_at (HE.out.below (HB1.out.trans (hb2.mono HB1.out.size))) hfile hbody hBw hRM hFn
           have HUa := Lib.hid hua
           have y0 := hua.y0
           have y1 := hua.y1
           obtain ⟨yp, _⟩ := one_blockU hua.yp
           obtain ⟨⟨k0, k1, k2, k3, k4, k5, k6, k7, k8⟩, _⟩ := nine_block hua.res.blk
           have HWk := Lib.hid hua.walk
           have HH := Lib.hid hp
           clear hb2 hp hres hRM hFn k0 k1 k2 k3 k5 k6 k7 k8 q0 q1 q2 hua))
    | (gi_at_call 21; refine (callsIn_wide.2 HWk.out).mono ?_; rintro e W4 ⟨⟨bw, fr, rfl, hbe, hG, hS⟩, hb4⟩; have HBe := Lib.hid hbe; have HG := Lib.hid hG; have HS := Lib.hid hS; have HB4 := Lib.hid hb4; clear hbe hG hS hb4)))
  · have hmx : Tryd.prog.follows .mixedOrders = true := by kernel_rfl
    generalize (w2.alloc (.cells #[.pointer a] 67)).alloc (.cells #[.int .i64 p.1, .int .i64 p.2] 32) = W3 at *
    gi_region_o
    all_goals gi_wp2
    all_goals
      refine ⟨.tuple #[.slice none 0 0, .agg #[.int .i64 p.1, .int .i64 p.2]], by simp [results, Tryd.results13, go_sem, d0, d1], ?_⟩
      exact ⟨Below.drew (Below.setCell (Below.setCell (HB1.out.trans (HB2.out.mono HB1.out.size)) (Nat.le_succ _) _) (Nat.le_succ _) _), by rw [HP.out]⟩
  · have HGl := Lib.hid (gone_len fs f)
    generalize goneR fs f = R0 at *
    have hb5 := ba1 W4 (.cells #[.slice none 0 0] 57)
    have hx5 : Boxed (W4.alloc (.cells #[.slice none 0 0] 57)) W4.heap.size 57 (.slice none 0 0) := heap_alloc_new W4 _
    have hz5 : (W4.alloc (.cells #[.slice none 0 0] 57)).heap.size = W4.heap.size + 1 := by simp
    generalize W4.alloc (.cells #[.slice none 0 0] 57) = W5 at *
    replace hz5 := Nat.le_of_eq hz5.symm
    have hb25 := HUa.out.below.trans ((HB4.out.trans (hb5.mono HB4.out.size)).mono HUa.out.below.size)
    have hz3 := HUa.out.size
    have HUse := Lib.hid (show usesF f R0.out = dedupL (usedL f.body R0.out ((wholeL f.body fr).map Prod.fst)) [] by unfold usesF usesN wholeL; rw [HBe.out, Option.getD_some])
    obtain ⟨a2, c2, b2, cb2, hbw, hbx, hI2, hF2, _, _⟩ := HS.out
    have hbx5 := (hb5.block _ (lt_of_heap hbx)).trans hbx
    obtain ⟨⟨z0, z1⟩, _⟩ := two_block hbx5
    have hro : RowOk W4.heap.size W5 := ⟨by rw [hx5.cell]; rfl, fun g e => by unfold rowB at e; rw [hx5.cell] at e; cases e⟩
    have hst := walk1R_stops a2 c2 f.body b2 cb2 fr HG.out W4.heap.size bw (3 - 1) W5 (lt_of_heap hbx5) (by omega) z0 z1 (hI2.below hb5 (Nat.le_refl _)) (hF2.below hb5 (Nat.le_refl _)) hro
    have HN := Lib.hid (show (wholeL f.body fr).length ≤ 4096 by
      have h1 := walkN_len HBe.out (f.body.length) (f.body.length - 1) 1 (by have := HG.out.formed.pos; omega) (by have := HG.out.formed.pos; omega)
      unfold wholeL
      have := HG.out.le
      omega)
    clear y0 y1 yp k4 z0 z1 hbx hbx5 hI2 hF2
    generalize (w2.alloc (.cells #[.pointer (some ⟨rb, 0, none⟩)] 67)).alloc (.cells #[.int .i64 R0.fault.1, .int .i64 0] 32) = W3 at *
    replace hz3 := Nat.le_of_eq hz3.symm
    have hz34 := HB4.out.size
    apply wpIn_rangeFunc_ownF (n := 3) rfl (by decide) (gf := 35) (lb := #[.pointer (some ⟨bw, 0, none⟩)]) rfl trivial (enters_of Tryd.func35 (by kernel_rfl) rfl) hst keepR_t keepR_b (Below.refl _ _) (fun _ => rfl)
      (fun pre W => (∃ v, Boxed W W4.heap.size 57 v ∧ W.ownsRow W4.heap.size 9 1 v (usedD R0.out pre).length ((usedD R0.out pre).map .string) ∧ True) ∧ Below W4.heap.size W5 W)
      (fun _ _ _ => False)
      (OwnFrom.and (Own.from (holdsRow_own W4.heap.size W4.heap.size 57 9 1 (fun pre => (usedD R0.out pre).length) (fun pre => (usedD R0.out pre).map .string) (fun _ _ => True)) _) (ownFrom_below (by omega) (by omega)))
      (fun _ _ _ _ _ hs _ _ => hs)
      ⟨⟨_, hx5, World.ownsRow_nil _ _ _ _, trivial⟩, Below.refl _ _⟩
    case hassign =>
      intro l x W K hK
      dsimp only [eltV]
      gi_wp2
      exact hK
    case hbody =>
      rintro l pre x W ⟨⟨v, hv, hr, _⟩, hb⟩ hlen
      have hmx : Tryd.prog.follows .mixedOrders = true := by kernel_rfl
      obtain ⟨⟨p, dp⟩, hat⟩ := x
      have HSn := Lib.hid (usedD_snoc R0.out pre (⟨(p, dp), hat⟩ : Elt f.body))
      simp only at hat
      have hpl : p < R0.out.length := by rw [HGl.out]; exact hat
      have hb3W : Below W3.heap.size W3 W := HB4.out.trans ((hb5.trans hb).mono HB4.out.size)
      have hRW := HUa.out.res.below hb3W
      obtain ⟨⟨k0, k1, k2, k3, k4, k5, k6, k7, k8⟩, _⟩ := nine_block hRW.blk
      have yp := (one_blockU ((hb3W.block _ (by omega)).trans HUa.out.yp)).1
      obtain ⟨g, cap, rfl, _, _, _, _, hgc, _⟩ := own_rowAt bnd_len hRW.out rfl hpl
      have hoD : R0.out.getD p bnd0 = R0.out[p] := by rw [List.getD_eq_getElem?_getD, List.getElem?_eq_getElem hpl]; rfl
      have htD : f.body.getD p ndU0 = f.body[p] := by rw [List.getD_eq_getElem?_getD, List.getElem?_eq_getElem hat]; rfl
      rw [show (⟨(p, dp), hat⟩ : Elt f.body).1.1 = p from rfl, hoD, htD] at HSn
      obtain ⟨ba, off, ha, hbl, x0, x1, x2, x3, x4, x5⟩ := nds_at (HUa.out.nds.below (hb3W.mono (Nat.le_refl _)) (Nat.le_trans hBw (by omega))) hat
      subst ha
      have c0 := hgc 0 _ rfl
      have c1 := hgc 1 _ rfl
      have c2 := hgc 2 _ rfl
      rw [Nat.add_zero] at c0
      generalize f.body[p] = xn at *
      generalize R0.out[p] = bd at *
      have hp1 : (p : Int) < (f.body.length : Int) := by omega
      have hp2 : (p : Int) < (R0.out.length : Int) := by omega
      have hp0 : (0 : Int) ≤ (p : Int) := by omega
      have hW1 : ba < W.heap.size := cell_lt x0
      have hW2 : g < W.heap.size := cell_lt c0
      have hW3 : rb < W.heap.size := cell_lt k4
      have hW4 : w2.heap.size < W.heap.size := cell_lt yp
      clear k0 k1 k2 k3 k5 k7 k8 hgc hoD htD x1 x2 x3 x5 hRW
      dsimp only
      gi_wp2
      have HS0 := Lib.hid (show (fun w' : World => w'.cell? ⟨w2.heap.size, 0, none⟩ = some (.pointer (some ⟨rb, 0, none⟩)) ∧ w'.cell? ⟨rb, 6, none⟩ = some (.slice (some ⟨g, 0, none⟩) R0.out.length cap) ∧ w'.cell? ⟨g, p * 3, none⟩ = some (.int .i64 bd.kind) ∧ w'.cell? ⟨g, p * 3 + 1, none⟩ = some (.int .i64 bd.idx) ∧ w'.cell? ⟨g, p * 3 + 2, none⟩ = some (.string bd.type) ∧ w'.cell? ⟨rb, 4, none⟩ = some (.slice (some ⟨ba, off, none⟩) f.body.length cb) ∧ w'.cell? ⟨ba, off + p * 6 + 4, none⟩ = some (.string xn.text)) W.drew from ⟨yp, k6, c0, c1, c2, k4, x4⟩)
      refine wpIn_region_round hmx (by kernel_rfl) ?_
      refine wpAny_of_T (S := fun w' : World => w'.cell? ⟨w2.heap.size, 0, none⟩ = some (.pointer (some ⟨rb, 0, none⟩)) ∧ w'.cell? ⟨rb, 6, none⟩ = some (.slice (some ⟨g, 0, none⟩) R0.out.length cap) ∧ w'.cell? ⟨g, p * 3, none⟩ = some (.int .i64 bd.kind) ∧ w'.cell? ⟨g, p * 3 + 1, none⟩ = some (.int .i64 bd.idx) ∧ w'.cell? ⟨g, p * 3 + 2, none⟩ = some (.string bd.type) ∧ w'.cell? ⟨rb, 4, none⟩ = some (.slice (some ⟨ba, off, none⟩) f.body.length cb) ∧ w'.cell? ⟨ba, off + p * 6 + 4, none⟩ = some (.string xn.text)) (T := ([] : List Nat).contains) _ _ _ _ ?_
      -- TAKES
      refine wpAnyT_take (l := []) (i := 0) (v := .pointer (some ⟨rb, 0, none⟩)) rfl (by kernel_rfl) (by kernel_rfl) (by kernel_rfl) (by kernel_rfl) (by kernel_rfl) (fun _ _ _ h => h) HS0.out (Or.inl ⟨by rfl, ?_⟩) ?_
      · intro wz hS
        have s0 := hS.1
        have s1 := hS.2.1
        have s2 := hS.2.2.1
        have s3 := hS.2.2.2.1
        have s4 := hS.2.2.2.2.1
        have s5 := hS.2.2.2.2.2.1
        have s6 := hS.2.2.2.2.2.2
        clear hS
        go_simp
        exact ⟨rfl, rfl⟩
      refine wpAnyT_take (l := []) (i := 1) (v := .pointer (some ⟨rb, 0, none⟩)) rfl (by kernel_rfl) (by kernel_rfl) (by kernel_rfl) (by kernel_rfl) (by kernel_rfl) (fun _ _ _ h => h) HS0.out (Or.inl ⟨by rfl, ?_⟩) ?_
      · intro wz hS
        have s0 := hS.1
        have s1 := hS.2.1
        have s2 := hS.2.2.1
        have s3 := hS.2.2.2.1
        have s4 := hS.2.2.2.2.1
        have s5 := hS.2.2.2.2.2.1
        have s6 := hS.2.2.2.2.2.2
        clear hS
        go_simp
        exact ⟨rfl, rfl⟩
      refine wpAnyT_take (l := []) (i := 2) (v := .pointer (some ⟨rb, 6, none⟩)) rfl (by kernel_rfl) (by kernel_rfl) (by kernel_rfl) (by kernel_rfl) (by kernel_rfl) (fun _ _ _ h => h) HS0.out (Or.inl ⟨by rfl, ?_⟩) ?_
      · intro wz hS
        have s0 := hS.1
        have s1 := hS.2.1
        have s2 := hS.2.2.1
        have s3 := hS.2.2.2.1
        have s4 := hS.2.2.2.2.1
        have s5 := hS.2.2.2.2.2.1
        have s6 := hS.2.2.2.2.2.2
        clear hS
        go_simp
        exact ⟨rfl, rfl⟩
      refine wpAnyT_take (l := []) (i := 3) (v := .slice (some ⟨g, 0, none⟩) R0.out.length cap) rfl (by kernel_rfl) (by kernel_rfl) (by kernel_rfl) (by kernel_rfl) (by kernel_rfl) (fun _ _ _ h => h) HS0.out (Or.inl ⟨by rfl, ?_⟩) ?_
      · intro wz hS
        have s0 := hS.1
        have s1 := hS.2.1
        have s2 := hS.2.2.1
        have s3 := hS.2.2.2.1
        have s4 := hS.2.2.2.2.1
        have s5 := hS.2.2.2.2.2.1
        have s6 := hS.2.2.2.2.2.2
        clear hS
        go_simp
        exact ⟨rfl, rfl⟩
      refine wpAnyT_take (l := []) (i := 4) (v := .int .i64 (p : Int)) rfl (by kernel_rfl) (by kernel_rfl) (by kernel_rfl) (by kernel_rfl) (by kernel_rfl) (fun _ _ _ h => h) HS0.out (Or.inl ⟨by rfl, ?_⟩) ?_
      · intro wz hS
        have s0 := hS.1
        have s1 := hS.2.1
        have s2 := hS.2.2.1
        have s3 := hS.2.2.2.1
        have s4 := hS.2.2.2.2.1
        have s5 := hS.2.2.2.2.2.1
        have s6 := hS.2.2.2.2.2.2
        clear hS
        go_simp
        exact ⟨rfl, rfl⟩
      refine wpAnyT_take (l := []) (i := 5) (v := .pointer (some ⟨g, p * 3, none⟩)) rfl (by kernel_rfl) (by kernel_rfl) (by kernel_rfl) (by kernel_rfl) (by kernel_rfl) (fun _ _ _ h => h) HS0.out (Or.inl ⟨by rfl, ?_⟩) ?_
      · intro wz hS
        have s0 := hS.1
        have s1 := hS.2.1
        have s2 := hS.2.2.1
        have s3 := hS.2.2.2.1
        have s4 := hS.2.2.2.2.1
        have s5 := hS.2.2.2.2.2.1
        have s6 := hS.2.2.2.2.2.2
        clear hS
        go_simp
        exact ⟨rfl, rfl⟩
      refine wpAnyT_take (l := []) (i := 6) (v := .agg #[.int .i64 bd.kind, .int .i64 bd.idx, .string bd.type]) rfl (by kernel_rfl) (by kernel_rfl) (by kernel_rfl) (by kernel_rfl) (by kernel_rfl) (fun _ _ _ h => h) HS0.out (Or.inl ⟨by rfl, ?_⟩) ?_
      · intro wz hS
        have s0 := hS.1
        have s1 := hS.2.1
        have s2 := hS.2.2.1
        have s3 := hS.2.2.2.1
        have s4 := hS.2.2.2.2.1
        have s5 := hS.2.2.2.2.2.1
        have s6 := hS.2.2.2.2.2.2
        clear hS
        go_simp
        exact ⟨rfl, rfl⟩
      refine wpAnyT_take (l := []) (i := 7) (v := .pointer (some ⟨rb, 0, none⟩)) rfl (by kernel_rfl) (by kernel_rfl) (by kernel_rfl) (by kernel_rfl) (by kernel_rfl) (fun _ _ _ h => h) HS0.out (Or.inl ⟨by rfl, ?_⟩) ?_
      · intro wz hS
        have s0 := hS.1
        have s1 := hS.2.1
        have s2 := hS.2.2.1
        have s3 := hS.2.2.2.1
        have s4 := hS.2.2.2.2.1
        have s5 := hS.2.2.2.2.2.1
        have s6 := hS.2.2.2.2.2.2
        clear hS
        go_simp
        exact ⟨rfl, rfl⟩
      refine wpAnyT_take (l := []) (i := 8) (v := .pointer (some ⟨rb, 0, none⟩)) rfl (by kernel_rfl) (by kernel_rfl) (by kernel_rfl) (by kernel_rfl) (by kernel_rfl) (fun _ _ _ h => h) HS0.out (Or.inl ⟨by rfl, ?_⟩) ?_
      · intro wz hS
        have s0 := hS.1
        have s1 := hS.2.1
        have s2 := hS.2.2.1
        have s3 := hS.2.2.2.1
        have s4 := hS.2.2.2.2.1
        have s5 := hS.2.2.2.2.2.1
        have s6 := hS.2.2.2.2.2.2
        clear hS
        go_simp
        exact ⟨rfl, rfl⟩
      refine wpAnyT_take (l := []) (i := 9) (v := .pointer (some ⟨rb, 0, none⟩)) rfl (by kernel_rfl) (by kernel_rfl) (by kernel_rfl) (by kernel_rfl) (by kernel_rfl) (fun _ _ _ h => h) HS0.out (Or.inl ⟨by rfl, ?_⟩) ?_
      · intro wz hS
        have s0 := hS.1
        have s1 := hS.2.1
        have s2 := hS.2.2.1
        have s3 := hS.2.2.2.1
        have s4 := hS.2.2.2.2.1
        have s5 := hS.2.2.2.2.2.1
        have s6 := hS.2.2.2.2.2.2
        clear hS
        go_simp
        exact ⟨rfl, rfl⟩
      refine wpAnyT_take (l := []) (i := 10) (v := .pointer (some ⟨rb, 4, none⟩)) rfl (by kernel_rfl) (by kernel_rfl) (by kernel_rfl) (by kernel_rfl) (by kernel_rfl) (fun _ _ _ h => h) HS0.out (Or.inl ⟨by rfl, ?_⟩) ?_
      · intro wz hS
        have s0 := hS.1
        have s1 := hS.2.1
        have s2 := hS.2.2.1
        have s3 := hS.2.2.2.1
        have s4 := hS.2.2.2.2.1
        have s5 := hS.2.2.2.2.2.1
        have s6 := hS.2.2.2.2.2.2
        clear hS
        go_simp
        exact ⟨rfl, rfl⟩
      refine wpAnyT_take (l := []) (i := 11) (v := .slice (some ⟨ba, off, none⟩) f.body.length cb) rfl (by kernel_rfl) (by kernel_rfl) (by kernel_rfl) (by kernel_rfl) (by kernel_rfl) (fun _ _ _ h => h) HS0.out (Or.inl ⟨by rfl, ?_⟩) ?_
      · intro wz hS
        have s0 := hS.1
        have s1 := hS.2.1
        have s2 := hS.2.2.1
        have s3 := hS.2.2.2.1
        have s4 := hS.2.2.2.2.1
        have s5 := hS.2.2.2.2.2.1
        have s6 := hS.2.2.2.2.2.2
        clear hS
        go_simp
        exact ⟨rfl, rfl⟩
      refine wpAnyT_take (l := []) (i := 12) (v := .int .i64 (p : Int)) rfl (by kernel_rfl) (by kernel_rfl) (by kernel_rfl) (by kernel_rfl) (by kernel_rfl) (fun _ _ _ h => h) HS0.out (Or.inl ⟨by rfl, ?_⟩) ?_
      · intro wz hS
        have s0 := hS.1
        have s1 := hS.2.1
        have s2 := hS.2.2.1
        have s3 := hS.2.2.2.1
        have s4 := hS.2.2.2.2.1
        have s5 := hS.2.2.2.2.2.1
        have s6 := hS.2.2.2.2.2.2
        clear hS
        go_simp
        exact ⟨rfl, rfl⟩
      refine wpAnyT_take (l := []) (i := 13) (v := .pointer (some ⟨ba, off + p * 6, none⟩)) rfl (by kernel_rfl) (by kernel_rfl) (by kernel_rfl) (by kernel_rfl) (by kernel_rfl) (fun _ _ _ h => h) HS0.out (Or.inl ⟨by rfl, ?_⟩) ?_
      · intro wz hS
        have s0 := hS.1
        have s1 := hS.2.1
        have s2 := hS.2.2.1
        have s3 := hS.2.2.2.1
        have s4 := hS.2.2.2.2.1
        have s5 := hS.2.2.2.2.2.1
        have s6 := hS.2.2.2.2.2.2
        clear hS
        go_simp
        exact ⟨rfl, rfl⟩
      refine wpAnyT_take (l := []) (i := 14) (v := .pointer (some ⟨ba, off + p * 6 + 4, none⟩)) rfl (by kernel_rfl) (by kernel_rfl) (by kernel_rfl) (by kernel_rfl) (by kernel_rfl) (fun _ _ _ h => h) HS0.out (Or.inl ⟨by rfl, ?_⟩) ?_
      · intro wz hS
        have s0 := hS.1
        have s1 := hS.2.1
        have s2 := hS.2.2.1
        have s3 := hS.2.2.2.1
        have s4 := hS.2.2.2.2.1
        have s5 := hS.2.2.2.2.2.1
        have s6 := hS.2.2.2.2.2.2
        clear hS
        go_simp
        exact ⟨rfl, rfl⟩
      refine wpAnyT_take (l := []) (i := 15) (v := .string xn.text) rfl (by kernel_rfl) (by kernel_rfl) (by kernel_rfl) (by kernel_rfl) (by kernel_rfl) (fun _ _ _ h => h) HS0.out (Or.inl ⟨by rfl, ?_⟩) ?_
      · intro wz hS
        have s0 := hS.1
        have s1 := hS.2.1
        have s2 := hS.2.2.1
        have s3 := hS.2.2.2.1
        have s4 := hS.2.2.2.2.1
        have s5 := hS.2.2.2.2.2.1
        have s6 := hS.2.2.2.2.2.2
        clear hS
        go_simp
        exact ⟨rfl, rfl⟩
      -- TAKEN
      have hba := (ba1 W.drew (.cells #[.int .i64 0, .int .i64 0, .string ⟨#[]⟩] 50))
      have hxa := heap_alloc_new W.drew (.cells #[.int .i64 0, .int .i64 0, .string ⟨#[]⟩] 50)
      have hS1 := And.intro ((hba.cell hW4).trans HS0.out.1) (And.intro ((hba.cell hW3).trans HS0.out.2.1) (And.intro ((hba.cell hW2).trans HS0.out.2.2.1) (And.intro ((hba.cell hW2).trans HS0.out.2.2.2.1) (And.intro ((hba.cell hW2).trans HS0.out.2.2.2.2.1) (And.intro ((hba.cell hW3).trans HS0.out.2.2.2.2.2.1) ((hba.cell hW1).trans HS0.out.2.2.2.2.2.2))))))
      refine wpAnyT_one (i := 16) (by kernel_rfl) ?_
      refine wpOp_keep rfl (by rfl) (fun K' hK' => ?_)
      go_simp
      refine hK' _ _ hS1 ?_
      refine wpAnyT_one (i := 17) (by kernel_rfl) ?_
      refine wpOp_keep rfl (by rfl) (fun K' hK' => ?_)
      go_simp
      have hne : ∀ (k j : Nat), k < W.heap.size → (⟨k, j, none⟩ : Addr).block ≠ W.heap.size := fun k j h e => by have : k = W.heap.size := e; omega
      have hb2 := (ba1 W (.cells #[.int .i64 bd.kind, .int .i64 bd.idx, .string bd.type] 50)).drew
      have hS2 := And.intro ((hb2.cell hW4).trans yp) (And.intro ((hb2.cell hW3).trans k6) (And.intro ((hb2.cell hW2).trans c0) (And.intro ((hb2.cell hW2).trans c1) (And.intro ((hb2.cell hW2).trans c2) (And.intro ((hb2.cell hW3).trans k4) ((hb2.cell hW1).trans x4))))))
      refine hK' _ _ hS2 ?_
      refine wpAnyT_one (i := 18) (by kernel_rfl) ?_
      refine wpOp_keep rfl (by rfl) (fun K' hK' => ?_)
      go_simp
      refine hK' _ _ hS2 ⟨by kernel_rfl, ?_⟩
      simp only [nrmQ]
      have hx0 := (hb2.cell hW1).trans x0
      have z0 : ((W.alloc (.cells #[.int .i64 bd.kind, .int .i64 bd.idx, .string bd.type] 50)).drew).cell? ⟨W.heap.size, 0, none⟩ = some (.int .i64 bd.kind) := (three_block (heap_alloc_new W (.cells #[.int .i64 bd.kind, .int .i64 bd.idx, .string bd.type] 50))).1.1
      have hvb : Boxed (W.alloc (.cells #[.int .i64 bd.kind, .int .i64 bd.idx, .string bd.type] 50)).drew W4.heap.size 57 v := hv.alloc _
      have hrb := hr.belowed hb2
      have hko : KeepsOthers W (W.alloc (.cells #[.int .i64 bd.kind, .int .i64 bd.idx, .string bd.type] 50)).drew := (KeepsOthers.alloc _ _).trans (KeepsOthers.drew _)
      have hkr : KeepR W4.heap.size W (W.alloc (.cells #[.int .i64 bd.kind, .int .i64 bd.idx, .string bd.type] 50)).drew := KeepR.of_below hb2 hv.lt
      have hbb := hb2
      have hS3 := hS2
      clear hK' K' hS1 hS2 hba hxa hb2 hne HS0
      obtain ⟨Wb, hWb⟩ : ∃ Wb, Wb = (W.alloc (.cells #[.int .i64 bd.kind, .int .i64 bd.idx, .string bd.type] 50)).drew := ⟨_, rfl⟩
      rw [← hWb] at hvb hrb hko hkr hbb hx0 z0 hS3 ⊢
      clear hWb yp k6 c0 c1 c2 k4 x4 x0
      have yp := hS3.1
      have k4 := hS3.2.2.2.2.2.1
      have hnl := HN.out
      have hul := usedD_le R0.out pre
      have HCt := Lib.hid (fun (hl : (usedD R0.out pre).length ≤ 4096) => contains_ownU xn.text hrb hl)
      have bx := hvb.cell
      have bf := hvb.frozen
      clear hS3
      by_cases h3 : xn.kind = 3
      · by_cases hof : ofFile bd = true
        · have hkd : (bd.kind == 1) = true ∨ (bd.kind == 1) = false ∧ (bd.kind == 2) = true := by
            unfold ofFile at hof
            rw [Bool.or_eq_true, decide_eq_true_eq, decide_eq_true_eq] at hof
            rcases hof with h | h <;> simp [h]
          have t3 : (xn.kind == 3) = true := by simpa using h3
          by_cases hin : xn.text ∈ usedD R0.out pre
          · have HIn := Lib.hid (show Lib.containsS (usedD R0.out pre) xn.text = true from (Lib.containsS_iff _ _).2 hin)
            have HC := Lib.hid (HCt.out (by omega))
            rw [HIn.out] at HC
            rw [if_pos ⟨h3, hof⟩, addL, if_pos hin] at HSn
            clear hin hof h3
            rcases hkd with t1 | ⟨t1, t2⟩
            · gi_wp2_with (refine ⟨trivial, ?_⟩; gi_at_call 22; refine (CallsIn.inRound l (callsIn_wide.2 HC.out)).mono ?_; rintro e w' ⟨rfl, hw'⟩; subst w')
              exact ⟨hko, hkr, ⟨v, hvb, by rw [HSn.out]; exact hrb, trivial⟩, hb.trans (hbb.mono (by have := hv.lt; omega))⟩
            · gi_wp2_with (refine ⟨trivial, ?_⟩; gi_at_call 22; refine (CallsIn.inRound l (callsIn_wide.2 HC.out)).mono ?_; rintro e w' ⟨rfl, hw'⟩; subst w')
              exact ⟨hko, hkr, ⟨v, hvb, by rw [HSn.out]; exact hrb, trivial⟩, hb.trans (hbb.mono (by have := hv.lt; omega))⟩
          · have HIn := Lib.hid (show Lib.containsS (usedD R0.out pre) xn.text = false by rw [← Bool.not_eq_true, Lib.containsS_iff]; exact hin)
            have HC := Lib.hid (HCt.out (by omega))
            rw [HIn.out] at HC
            rw [if_pos ⟨h3, hof⟩, addL, if_neg hin] at HSn
            obtain ⟨i0, hi, hz0, hz1, hz2⟩ := info_parts infoStrU
            have HI0 := Lib.hid (And.intro hi (And.intro hz0 (And.intro hz1 hz2)))
            have hbv := hvb.lt
            have hWb0 := hbb.size
            have HRb := Lib.hid hrb
            clear hin hof h3 hi hz0 hz1 hz2 hrb
            rcases hkd with t1 | ⟨t1, t2⟩
            · gi_wp2_with (first
                | (refine ⟨trivial, ?_⟩; gi_at_call 22; refine (CallsIn.inRound l (callsIn_wide.2 HC.out)).mono ?_; rintro e w' ⟨rfl, hw'⟩; subst w')
                | (gi_at_builtin; refine wpListIn_append_lies _ rfl _ _ 57 rfl W4.heap.size 9 i0 (.string ⟨#[]⟩) 1 16 Tryd.underlying57 HI0.out.1 HI0.out.2.1 HI0.out.2.2.1 HI0.out.2.2.2 rfl (by decide) _ _ _ rfl (HRb.out.alloc _) ⟨Wb.heap.size, 0, none⟩ 1 1 [.string xn.text] rfl rfl (World.news_of_block (cs := #[.string xn.text]) (t := 9) (fr := (0, 0)) (heap_alloc_new Wb _)) (by simp [Value.oneCell']) (by decide) (by unfold maxLen; omega) (by omega) (by simp; omega) ?_; intro gg cpp w9 hown hgrow hat hlt9; obtain ⟨bx1, bx2, bx3, bx4, bx5⟩ := Boxed.appended hvb (by decide) HRb.out (by omega) (Nat.le_refl _) hown hgrow; have bxc := bx1.cell; have bxf := bx1.frozen))
              exact ⟨hko.trans bx4, hkr.trans (keepR_appended hvb bx2 hgrow (fun g' e => hat.imp (fun h => by have := Option.some.inj (show some gg = some g' from e); subst this; exact h) (fun h => by have := Option.some.inj (show some gg = some g' from e); subst this; exact h)) (fun g' e => by have := Option.some.inj (show some gg = some g' from e); subst this; exact hlt9)), ⟨_, bx2, by rw [HSn.out]; simpa using bx3, trivial⟩, hb.trans ((hbb.mono (by have := hv.lt; omega)).trans bx5)⟩
            · gi_wp2_with (first
                | (refine ⟨trivial, ?_⟩; gi_at_call 22; refine (CallsIn.inRound l (callsIn_wide.2 HC.out)).mono ?_; rintro e w' ⟨rfl, hw'⟩; subst w')
                | (gi_at_builtin; refine wpListIn_append_lies _ rfl _ _ 57 rfl W4.heap.size 9 i0 (.string ⟨#[]⟩) 1 16 Tryd.underlying57 HI0.out.1 HI0.out.2.1 HI0.out.2.2.1 HI0.out.2.2.2 rfl (by decide) _ _ _ rfl (HRb.out.alloc _) ⟨Wb.heap.size, 0, none⟩ 1 1 [.string xn.text] rfl rfl (World.news_of_block (cs := #[.string xn.text]) (t := 9) (fr := (0, 0)) (heap_alloc_new Wb _)) (by simp [Value.oneCell']) (by decide) (by unfold maxLen; omega) (by omega) (by simp; omega) ?_; intro gg cpp w9 hown hgrow hat hlt9; obtain ⟨bx1, bx2, bx3, bx4, bx5⟩ := Boxed.appended hvb (by decide) HRb.out (by omega) (Nat.le_refl _) hown hgrow; have bxc := bx1.cell; have bxf := bx1.frozen))
              exact ⟨hko.trans bx4, hkr.trans (keepR_appended hvb bx2 hgrow (fun g' e => hat.imp (fun h => by have := Option.some.inj (show some gg = some g' from e); subst this; exact h) (fun h => by have := Option.some.inj (show some gg = some g' from e); subst this; exact h)) (fun g' e => by have := Option.some.inj (show some gg = some g' from e); subst this; exact hlt9)), ⟨_, bx2, by rw [HSn.out]; simpa using bx3, trivial⟩, hb.trans ((hbb.mono (by have := hv.lt; omega)).trans bx5)⟩
        · have t3 : (xn.kind == 3) = true := by simpa using h3
          have hof' : bd.kind ≠ 1 ∧ bd.kind ≠ 2 := by
            unfold ofFile at hof
            rw [Bool.or_eq_true, decide_eq_true_eq, decide_eq_true_eq] at hof
            exact ⟨fun h => hof (.inl h), fun h => hof (.inr h)⟩
          have t1 : (bd.kind == 1) = false := by simpa using hof'.1
          have t2 : (bd.kind == 2) = false := by simpa using hof'.2
          rw [if_neg (fun h => hof h.2)] at HSn
          clear hof' hof h3
          gi_wp2
          refine ⟨trivial, ?_⟩
          gi_wp2
          exact ⟨hko, hkr, ⟨v, hvb, by rw [HSn.out]; exact hrb, trivial⟩, hb.trans (hbb.mono (by have := hv.lt; omega))⟩
      · have t3 : (xn.kind == 3) = false := by simpa using h3
        rw [if_neg (fun h => h3 h.1)] at HSn
        gi_wp2
        refine ⟨trivial, ?_⟩
        gi_wp2
        exact ⟨hko, hkr, ⟨v, hvb, by rw [HSn.out]; exact hrb, trivial⟩, hb.trans (hbb.mono (by have := hv.lt; omega))⟩
    case hdone =>
      rintro D ys W hD hys ⟨⟨v, hv, hr, _⟩, hb⟩ hK
      have hmx : Tryd.prog.follows .mixedOrders = true := by kernel_rfl
      have hb3W : Below W3.heap.size W3 W := HB4.out.trans ((hb5.trans hb).mono HB4.out.size)
      have hb2W := HB2.out.trans ((HUa.out.below.trans (hb3W.mono HUa.out.below.size)).mono HB2.out.size)
      obtain ⟨⟨d0, d1⟩, fd⟩ := HR.out _ hb2W
      have fd0 := fd 0
      have fd1 := fd 1
      have y0 := (hb3W.cell (p := ⟨w2.heap.size + 1, 0, none⟩) (cell_lt HUa.out.y0)).trans HUa.out.y0
      have y1 := (hb3W.cell (p := ⟨w2.heap.size + 1, 1, none⟩) (cell_lt HUa.out.y1)).trans HUa.out.y1
      have hvc := hv.cell
      have hll : usedD R0.out ys = usesF f R0.out := by rw [HUse.out, ← hys]; rfl
      rw [hll] at hr
      obtain ⟨av, cv, rfl⟩ := own_slice hr
      have HRw := Lib.hid hr
      have HBW := Lib.hid (HB1.out.trans (hb2W.mono HB1.out.size))
      have hlo : w.heap.size + 1 < W4.heap.size := by have := lt_of_heap HX.out; have := HB2.out.size; omega
      clear hr hll hb2W hb3W fd hys
      gi_wp2
      gi_region_o
      all_goals gi_wp2
      all_goals
        have hK2 : (((W.setCell ⟨w.heap.size + 1, 0, none⟩ (.int .i64 R0.fault.1)).setCell ⟨w.heap.size + 1, 1, none⟩ (.int .i64 0)).drew).heap[D]? = some (.deferred (some [])) := by
          have hne : D ≠ w.heap.size + 1 := by omega
          show ((W.setCell ⟨w.heap.size + 1, 0, none⟩ (.int .i64 R0.fault.1)).setCell ⟨w.heap.size + 1, 1, none⟩ (.int .i64 0)).heap[D]? = _
          rw [Below.heap_setCell _ _ _ _ hne, Below.heap_setCell _ _ _ _ hne]
          exact hK
        refine ⟨by simp, .inl ⟨_, _, rfl, run_takeDeferred hK2, ?_⟩⟩
        have hcp : ∀ (o : Obj) (j : Nat), ((((W.setCell ⟨w.heap.size + 1, 0, none⟩ (.int .i64 R0.fault.1)).setCell ⟨w.heap.size + 1, 1, none⟩ (.int .i64 0)).drew).putObj D o).cell? ⟨w.heap.size + 1, j, none⟩ = ((W.setCell ⟨w.heap.size + 1, 0, none⟩ (.int .i64 R0.fault.1)).setCell ⟨w.heap.size + 1, 1, none⟩ (.int .i64 0)).cell? ⟨w.heap.size + 1, j, none⟩ := fun o j => World.cell?_of_block (a := ⟨w.heap.size + 1, j, none⟩) (World.putObj_heap_other (by show w.heap.size + 1 ≠ D; omega))
        refine ⟨.tuple #[.slice av (usesF f R0.out).length cv, .agg #[.int .i64 R0.fault.1, .int .i64 0]], by simp [results, Tryd.results13, go_sem, hcp, d0, d1], ?_⟩
        have hrs := row_setU (row_setU HRw.out ⟨w.heap.size + 1, 0, none⟩ (.int .i64 R0.fault.1) (fun e => by have := (HRw.out.lt _ e).1; simp only at this; omega)) ⟨w.heap.size + 1, 1, none⟩ (.int .i64 0) (fun e => by have := (HRw.out.lt _ e).1; simp only at this; omega)
        have hrd := hrs.belowed (Below.refl _ _).drew
        refine ⟨((((HBW.out.setCell (p := ⟨w.heap.size + 1, 0, none⟩) (Nat.le_succ _) _).setCell (p := ⟨w.heap.size + 1, 1, none⟩) (Nat.le_succ _) _).drew).trans (belowK_b (w := w) (Nat.le_refl _) _ D _ _ (by omega) hK2 rfl rfl)), ?_⟩
        rw [HP.out]
        refine ⟨_, by rw [HH.out], own_move (ownsRow_putObj hrd _ hK2 rfl) (by omega) (fun _ _ => rfl)⟩
    case hstop =>
      rintro D c pre W _ _ h _
      exact h.elim
end Go.Proofs.YtbbaooeioogijaaDoor

