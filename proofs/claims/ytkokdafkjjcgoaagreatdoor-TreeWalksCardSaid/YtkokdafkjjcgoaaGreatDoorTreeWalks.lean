/- Any tree is gone over and counted as the document says, again and again: the law's walk. -/
import Derived.Test.YtkokdafkjjcgoaaGreatDoorRwM
import Derived.LoopNIn
namespace Go.Proofs.YtkokdafkjjcgoaaGreatDoor
open Go.RowKit Go.Shelf

attribute [local go_sem] Oper.semAt_some

theorem IntRow.opened {w : World} {base : Nat} {v : Value} {L : List Int} (h : IntRow w base v L) : ∃ a cap, v = .slice a L.length cap ∧ IsInts w.heap.size w a L := by
  obtain ⟨a, cap, hv, hN, _⟩ := own_sl int_len h rfl
  exact ⟨a, cap, hv, hN⟩

theorem strow_steps {w : World} {base g off cap : Nat} {L : List (Nat × Nat)} (h : StRow w base (.slice (some ⟨g, off, none⟩) L.length cap) L) : IsSteps w.heap.size w (some ⟨g, off, none⟩) L := by
  obtain ⟨a, cap2, hv, hI, _⟩ := own_sl st_len h rfl
  simp only [Value.slice.injEq] at hv
  rw [hv.1]
  exact hI
theorem step_at {B : Nat} {w : World} {g off : Nat} {L : List (Nat × Nat)} (h : IsSteps B w (some ⟨g, off, none⟩) L) {i : Nat} (hi : i < L.length) : g < B ∧ w.cell? ⟨g, off + i * 2, none⟩ = some (.int .i64 (L[i].1 : Int)) ∧ w.cell? ⟨g, off + i * 2 + 1, none⟩ = some (.int .i64 (L[i].2 : Int)) := by
  obtain ⟨b2, o2, e, hlt, hc⟩ := h (fun e => by rw [e] at hi; simp at hi)
  simp only [Option.some.injEq, Addr.mk.injEq, and_true] at e
  obtain ⟨rfl, rfl⟩ := e
  have hx := List.getElem?_eq_getElem hi
  exact ⟨hlt, hc i _ hx 0 _ rfl, hc i _ hx 1 _ rfl⟩
theorem pre_next {t : List Nd} {L : List (Nat × Nat)} {pre : List (Elt t)} {y : Nat × Nat} (x : Elt t) (h : elts pre <+: L) (hy : L[pre.length]? = some y) : elts (pre ++ [x]) <+: L ↔ x.1 = y := by
  rw [elts_app]
  obtain ⟨r, rfl⟩ := h
  rw [← elts_len pre, List.getElem?_append_right (Nat.le_refl _), Nat.sub_self] at hy
  cases r with
  | nil => simp at hy
  | cons z r =>
    obtain rfl : z = y := by simpa using hy
    rw [List.prefix_append_right_inj, show elts [x] = [x.1] from rfl]
    constructor
    · rintro ⟨r2, h2⟩
      simpa using congrArg List.head? h2
    · rintro rfl
      exact ⟨r, rfl⟩
theorem keepBut_set0 (bn : Nat) (W : World) (u : Value) : KeepBut bn W (W.setCell ⟨bn, 0, none⟩ u) :=
  ⟨rfl, rfl, rfl, by simp, fun k o hk ho _ => by
    show (W.setCell ⟨bn, 0, none⟩ u).heap[k]? = some o
    rw [heap_setCell_other _ _ _ _ (fun e => hk e)]
    exact ho⟩
theorem cell_set0 {W : World} {bn : Nat} {v : Value} {x y : Int} (h : W.cell? ⟨bn, 0, none⟩ = some v) (hu : x = y) : (W.setCell ⟨bn, 0, none⟩ (.int .i64 x)).cell? ⟨bn, 0, none⟩ = some (.int .i64 y) := by
  subst hu
  exact World.cell?_setCell_same' _ _ _ (by rw [h]; rfl)
/-- all as it was, ahead of B, but for one block -/
structure SameTo (g B : Nat) (W W' : World) : Prop where
  size : B ≤ W'.heap.size
  block : ∀ k, k < B → k ≠ g → W'.heap[k]? = W.heap[k]?
theorem SameTo.trans {g B : Nat} {X Y Z : World} (h : SameTo g B X Y) (k : SameTo g B Y Z) : SameTo g B X Z := ⟨k.size, fun i h1 h2 => (k.block i h1 h2).trans (h.block i h1 h2)⟩
theorem SameTo.of {g B : Nat} {W W' : World} (h : Below B W W') (hB : B ≤ W.heap.size) : SameTo g B W W' := ⟨Nat.le_trans hB h.size, fun k hk _ => h.block k hk⟩
theorem SameTo.mono {g B C : Nat} {W W' : World} (h : SameTo g B W W') (hC : C ≤ B) : SameTo g C W W' := ⟨Nat.le_trans hC h.size, fun k h1 h2 => h.block k (by omega) h2⟩
theorem SameTo.set {g B : Nat} {W W' : World} (h : SameTo g B W W') (o : Nat) (u : Value) : SameTo g B W (W'.setCell ⟨g, o, none⟩ u) := ⟨by simpa using h.size, fun k h1 h2 => (heap_setCell_other _ _ _ _ (fun e => h2 e)).trans (h.block k h1 h2)⟩
theorem SameTo.sl {α : Type} {kk : Nat} {cells : α → List Value} {g B C : Nat} {W W' : World} (h : SameTo g C W W') {a : Option Addr} {L : List α} (hs : IsSl kk cells B W a L) (hB : B ≤ C) (hg : ∀ b off, a = some ⟨b, off, none⟩ → b ≠ g) : IsSl kk cells B W' a L := fun hn => by
  obtain ⟨b, off, ha, hlt, hc⟩ := hs hn
  exact ⟨b, off, ha, hlt, fun i x hx j u hu => (World.cell?_of_block (h.block b (by omega) (hg b off ha))).trans (hc i x hx j u hu)⟩
/-- nodes of one's own, whose numbers have gone up -/
def OwnI (W : World) (g c n : Nat) : Prop := ∃ ys, W.ownsRow 0 36 6 (.slice (some ⟨g, 0, none⟩) n c) n ys ∧ ∀ i, i < n → ∃ z : Int, ys[i * 6 + 3]? = some (.int .i64 z)
theorem OwnI.at_ {W : World} {g c n i : Nat} (h : OwnI W g c n) (hi : i < n) : (∃ z : Int, W.cell? ⟨g, i * 6 + 3, none⟩ = some (.int .i64 z)) ∧ W.frozen? ⟨g, i * 6 + 3, none⟩ = false := by
  obtain ⟨ys, ho, hz⟩ := h
  obtain ⟨z, hz⟩ := hz i hi
  exact ⟨⟨z, by rw [ho.cellAt _ (by omega)]; exact hz⟩, ho.frozenAt _⟩
theorem OwnI.set {W : World} {g c n i : Nat} (h : OwnI W g c n) (hi : i < n) (x : Int) : OwnI (W.setCell ⟨g, i * 6 + 3, none⟩ (.int .i64 x)) g c n := by
  obtain ⟨ys, ho, hz⟩ := h
  have hl := ho.1
  refine ⟨_, (ho.stored (i * 6 + 3) _).1, fun j hj => ?_⟩
  by_cases e : j = i
  · subst e
    exact ⟨x, by rw [List.getElem?_set_self (by omega)]⟩
  · rw [List.getElem?_set_ne (by omega)]
    exact hz j hj
theorem OwnI.of {W : World} {base g c : Nat} {t : List Nd} (h : NdRow W base (.slice (some ⟨g, 0, none⟩) t.length c) t) : OwnI W g c t.length := by
  refine ⟨_, own_le9 h (Nat.zero_le _), fun i hi => ⟨t[i].int, ?_⟩⟩
  have hI : IsNds W.heap.size W (some ⟨g, 0, none⟩) t := by
    obtain ⟨a, cap, hv, hN, _⟩ := own_sl nd_len h rfl
    simp only [Value.slice.injEq] at hv
    rw [hv.1]; exact hN
  obtain ⟨b, off, e, _, _, _, _, x3, _⟩ := nds_at hI hi
  simp only [Option.some.injEq, Addr.mk.injEq, and_true] at e
  obtain ⟨rfl, rfl⟩ := e
  rw [Nat.zero_add] at x3
  have hl := h.1
  rw [← World.ownsRow.cellAt h (i * 6 + 3) (by omega)]
  exact x3
theorem OwnI.to {W W' : World} {g c n : Nat} (h : OwnI W g c n) (hb : W'.heap[g]? = W.heap[g]?) : OwnI W' g c n := by
  obtain ⟨ys, ho, hz⟩ := h
  refine ⟨ys, ⟨ho.1, ?_⟩, hz⟩
  rcases ho.2 with h | ⟨g', cap, cur, e, hg, hh, r⟩
  · exact .inl h
  · simp only [Value.slice.injEq, Option.some.injEq, Addr.mk.injEq, and_true] at e
    obtain ⟨rfl, _, rfl⟩ := e
    exact .inr ⟨g, c, cur, rfl, hg, hb.trans hh, r⟩
theorem NdRow.blk {w : World} {base n c : Nat} {a : Option Addr} {L : List Nd} (h : NdRow w base (.slice a n c) L) (hn : L ≠ []) : ∃ g, a = some ⟨g, 0, none⟩ ∧ base ≤ g ∧ g < w.heap.size := by
  rcases h.2 with ⟨_, h0⟩ | ⟨g, cap, cur, e, hb, hg, _⟩
  · exact absurd (List.eq_nil_of_length_eq_zero h0) hn
  · simp only [Value.slice.injEq] at e
    exact ⟨g, e.1, hb, lt_of_heap hg⟩
theorem ix_own {t : List Nd} {B n₀ id : Nat} {w₀ : World} {P : List (Elt t) → Prop} (hn : n₀ ≤ w₀.heap.size) (hB : n₀ ≤ B) (c : Code) : OwnFrom B (fun (pre : List (Elt t)) W => (c = .ret ∧ P pre) ∨ (c = .exit id ∧ Below n₀ w₀ W)) := fun s X Y row hs hg hr => by
  rcases hs with h | ⟨h, hb⟩
  · exact .inl h
  · exact .inr ⟨h, ownFrom_below (β := List (Elt t)) hn hB s X Y row hb hg hr⟩
set_option maxRecDepth 100000 in
set_option maxHeartbeats 8000000 in
theorem treeWalks_0 (a : Option Addr) (cap : Nat) (t : List Nd) (ka : Option Addr) (kc : Nat) (K : List Int) (stop : Int) (w : World) (hE : TE w) (hI : IsNds w.heap.size w a t) (hOk : ∀ x ∈ t, NdOk x) (hz : t.length * 64 ≤ 140737488351232) (hnil : a = none → t = [] ∧ cap = 0)
    (hK : IsInts w.heap.size w ka K) (hkz : K.length * 8 ≤ 140737488351232) (hkn : ka = none → K = [] ∧ kc = 0) (h : checkN9 t = 0) :
    Calls Tryz.prog 4 #[.slice a t.length cap, .slice ka K.length kc, .int .i64 stop] w fun e w' => e = .returned (.bool true) ∧ Below w.heap.size w w' := by
  have hnf : ∀ (bw : Nat) (wx : World), (binOp .eql 43 (.func (.func 46) #[] #[.pointer (some ⟨bw, 0, none⟩)]) .nilFunc).run Tryz.prog wx = .ok (.bool false) wx := fun _ _ => by kernel_rfl
  have hdd : ∀ k : Nat, (Fence.wide.depth.isSome = true → 1 ≤ k) := fun k h => by cases h
  have hkl : (K.length : Int) ≤ 140737488355328 := by omega
  have K1 := Lib.hid (fun w1 (hI : IsNds w1.heap.size w1 a t) => copyTree_ok a cap t w1 hI hz hnil)
  have K2 := Lib.hid (fun w1 (hK : IsInts w1.heap.size w1 ka K) => copyInts_ok ka kc K w1 hK hkz hkn)
  have K3 := Lib.hid (fun a1 c1 k1 q1 w1 (hE : TE w1) (hI : IsNds w1.heap.size w1 a1 t) hn (hK : IsInts w1.heap.size w1 k1 K) => treeCount_0 a1 c1 t k1 q1 K w1 hE hI hOk hz hn hK (by omega) h)
  have K4 := Lib.hid (fun w1 (hI : IsNds w1.heap.size w1 a t) (hK : IsInts w1.heap.size w1 ka K) => refCount_0 a cap t ka kc K w1 hI hOk hz hK hkl h)
  have K5 := Lib.hid (fun k1 q1 w1 (hA : IsInts w1.heap.size w1 k1 K) (hB : IsInts w1.heap.size w1 ka K) => sameZ_ok k1 ka q1 kc K w1 hA hB hkl)
  have K6 := Lib.hid (fun a1 c1 w1 (hE : TE w1) (hI : IsNds w1.heap.size w1 a1 t) hn => treeWalk_0 a1 c1 t w1 hE hI hOk hz hn h)
  have K7 := Lib.hid (fun w1 (hI : IsNds w1.heap.size w1 a t) => refWalk_0 a cap t w1 hI hOk hz h)
  have HE := Lib.hid hE
  have HI := Lib.hid hI
  have HK := Lib.hid hK
  clear hE hI hOk hnil hK hkn h
  refine (callsIn_wide (n := 3)).1 ?_
  refine callsIn_of_wp_marks Tryz.func4 rfl trivial ?_ rfl
  simp only [Tryz.ntmps4, List.size_toArray, List.length_cons, List.length_nil, Nat.reduceAdd, Nat.reduceSub, Array.replicate_succ, Array.replicate_zero, List.push_toArray, List.append_toArray, List.nil_append, List.cons_append]
  have hx1 : ((w.alloc (.cells #[.int .i64 stop] 3)).alloc (.cells #[.bool false] 4)).heap[w.heap.size]? = some (.cells #[.int .i64 stop] 3 (0, 0)) := (Below.heap_alloc _ _ _ (by simp)).trans (heap_alloc_new _ _)
  have hx2 : ((w.alloc (.cells #[.int .i64 stop] 3)).alloc (.cells #[.bool false] 4)).heap[w.heap.size + 1]? = some (.cells #[.bool false] 4 (0, 0)) := by
    have := heap_alloc_new (w.alloc (.cells #[.int .i64 stop] 3)) (.cells #[.bool false] 4)
    rwa [World.size_alloc] at this
  have hb0 : Below w.heap.size w ((w.alloc (.cells #[.int .i64 stop] 3)).alloc (.cells #[.bool false] 4)) := (ba1 _ _).alloc (ba1 _ _).size _
  have hz0 : ((w.alloc (.cells #[.int .i64 stop] 3)).alloc (.cells #[.bool false] 4)).heap.size = w.heap.size + 2 := by simp
  gi_wp2
  generalize (w.alloc (.cells #[.int .i64 stop] 3)).alloc (.cells #[.bool false] 4) = W0 at *
  have HX1 := Lib.hid hx1
  have HX2 := Lib.hid hx2
  have HB0 := Lib.hid hb0
  have L1 := Lib.hid (K1.out W0 ((HI.out.below hb0 (Nat.le_refl _)).mono hb0.size))
  clear hx1 hx2 hb0
  refine ⟨trivial, ?_⟩
  refine (callsIn_wide.2 L1.out).mono ?_
  (rintro e W1 ⟨⟨v, rfl, hr⟩, hb⟩; have HRo := Lib.hid hr; obtain ⟨a1, c1, rfl, _, _, hN, hn1⟩ := hr.opened; have HB01 := Lib.hid hb; have HB1 := Lib.hid (HB0.out.trans (hb.mono HB0.out.size)); have HN1 := Lib.hid hN; have HNil := Lib.hid hn1; have L2 := Lib.hid (K2.out W1 ((HK.out.below HB1.out (Nat.le_refl _)).mono HB1.out.size)); clear hr hb hN hn1)
  gi_wp2_with (refine ⟨trivial, ?_⟩; gi_at_call 18; refine (callsIn_wide.2 L2.out).mono ?_; rintro e W2 ⟨⟨v, rfl, hr⟩, hb⟩; obtain ⟨k1, q1, rfl, hM⟩ := hr.opened; have HB02 := Lib.hid (HB01.out.trans (hb.mono HB01.out.size)); have HB2 := Lib.hid (HB1.out.trans (hb.mono HB1.out.size)); have HN2 := Lib.hid ((HN1.out.below hb (Nat.le_refl _)).mono hb.size); have HM2 := Lib.hid hM; have HR2 := Lib.hid (show NdRow W2 W0.heap.size (.slice a1 t.length c1) t from HRo.out.belowed hb); have L3 := Lib.hid (K3.out a1 c1 k1 q1 W2 (HE.out.below HB2.out) HN2.out HNil.out hM); clear hr hb hM)
  gi_wp2_with (refine ⟨trivial, ?_⟩; gi_at_call 19; refine (callsIn_wide.2 L3.out).mono ?_; rintro e W3 ⟨⟨fr, hbe, rfl⟩, hb⟩; rw [cnt_both hbe]; have HBe := Lib.hid hbe; have HB03 := Lib.hid (HB02.out.trans (hb.mono HB02.out.size)); have HB3 := Lib.hid (HB2.out.trans (hb.mono HB2.out.size)); have HN3 := Lib.hid ((HN2.out.below hb (Nat.le_refl _)).mono hb.size); have HM3 := Lib.hid ((HM2.out.below hb (Nat.le_refl _)).mono hb.size); have HR3 := Lib.hid (show NdRow W3 W0.heap.size (.slice a1 t.length c1) t from HR2.out.belowed hb); have L4 := Lib.hid (K4.out W3 ((HI.out.below HB3.out (Nat.le_refl _)).mono HB3.out.size) ((HK.out.below HB3.out (Nat.le_refl _)).mono HB3.out.size)); clear hbe hb)
  gi_wp2_with (refine ⟨trivial, ?_⟩; gi_at_call 20; refine (callsIn_wide.2 L4.out).mono ?_; rintro e W4 ⟨rfl, hb⟩; have HB04 := Lib.hid (HB03.out.trans (hb.mono HB03.out.size)); have HB4 := Lib.hid (HB3.out.trans (hb.mono HB3.out.size)); have HN4 := Lib.hid ((HN3.out.below hb (Nat.le_refl _)).mono hb.size); have HM4 := Lib.hid ((HM3.out.below hb (Nat.le_refl _)).mono hb.size); have HR4 := Lib.hid (show NdRow W4 W0.heap.size (.slice a1 t.length c1) t from HR3.out.belowed hb); have L5 := Lib.hid (K5.out k1 q1 W4 HM4.out ((HK.out.below HB4.out (Nat.le_refl _)).mono HB4.out.size)); have tc : ((cntT t K t.length : Int) != (cntT t K t.length : Int)) = false := bne_self_eq_false _; clear hb)
  gi_wp2_with (refine ⟨trivial, ?_⟩; gi_at_call 14; refine (callsIn_wide.2 L5.out).mono ?_; rintro e W5 ⟨rfl, hb⟩; have HB05 := Lib.hid (HB04.out.trans (hb.mono HB04.out.size)); have HB5 := Lib.hid (HB4.out.trans (hb.mono HB4.out.size)); have HN5 := Lib.hid ((HN4.out.below hb (Nat.le_refl _)).mono hb.size); have HR5 := Lib.hid (show NdRow W5 W0.heap.size (.slice a1 t.length c1) t from HR4.out.belowed hb); have L6 := Lib.hid (K6.out a1 c1 W5 (HE.out.below HB5.out) HN5.out HNil.out); clear hb)
  gi_wp2_with (refine ⟨trivial, ?_⟩; gi_at_call 21; refine (callsIn_wide.2 L6.out).mono ?_; rintro e W6 ⟨⟨bw, fr2, rfl, hbe, hG, hS⟩, hb⟩; obtain rfl := Option.some.inj (HBe.out.symm.trans hbe); have HG := Lib.hid hG; have HS6 := Lib.hid hS; have HB06 := Lib.hid (HB05.out.trans (hb.mono HB05.out.size)); have HB6 := Lib.hid (HB5.out.trans (hb.mono HB5.out.size)); have HR6 := Lib.hid (show NdRow W6 W0.heap.size (.slice a1 t.length c1) t from HR5.out.belowed hb); have HZ56 := Lib.hid hb.size; have L7 := Lib.hid (K7.out W6 ((HI.out.below HB6.out (Nat.le_refl _)).mono HB6.out.size)); clear hb hbe hG hS)
  gi_wp2_with (refine ⟨trivial, ?_⟩; gi_at_call 22; refine (callsIn_wide.2 L7.out).mono ?_; rintro e W7 ⟨⟨v, fr2, rfl, hbe, hr⟩, hb⟩; obtain rfl := Option.some.inj (HBe.out.symm.trans hbe); have HB07 := Lib.hid (HB06.out.trans (hb.mono HB06.out.size)); have HB7 := Lib.hid (HB6.out.trans (hb.mono HB6.out.size)); have HB67 := Lib.hid hb; have HSt := Lib.hid hr; have HR7 := Lib.hid (show NdRow W7 W0.heap.size (.slice a1 t.length c1) t from HR6.out.belowed hb); obtain ⟨gw, ow, cw, rfl, hst⟩ := hr.some (walkN_ne _ _ _ _); have HSt7 := Lib.hid (strow_steps hr); have HGw := Lib.hid (World.ownsRow.lt hr gw rfl); clear hb hbe hr hst)
  have hx8 : ((W7.alloc (.cells #[.slice (some ⟨gw, ow, none⟩) (wholeL t fr).length cw] 46)).alloc (.cells #[.int .i64 0] 3)).heap[W7.heap.size]? = some (.cells #[.slice (some ⟨gw, ow, none⟩) (wholeL t fr).length cw] 46 (0, 0)) := (Below.heap_alloc _ _ _ (by simp)).trans (heap_alloc_new _ _)
  have hx9 : ((W7.alloc (.cells #[.slice (some ⟨gw, ow, none⟩) (wholeL t fr).length cw] 46)).alloc (.cells #[.int .i64 0] 3)).heap[W7.heap.size + 1]? = some (.cells #[.int .i64 0] 3 (0, 0)) := by
    have := heap_alloc_new (W7.alloc (.cells #[.slice (some ⟨gw, ow, none⟩) (wholeL t fr).length cw] 46)) (.cells #[.int .i64 0] 3)
    rwa [World.size_alloc] at this
  have hb8 : Below W7.heap.size W7 ((W7.alloc (.cells #[.slice (some ⟨gw, ow, none⟩) (wholeL t fr).length cw] 46)).alloc (.cells #[.int .i64 0] 3)) := (ba1 _ _).alloc (ba1 _ _).size _
  have hz8 : ((W7.alloc (.cells #[.slice (some ⟨gw, ow, none⟩) (wholeL t fr).length cw] 46)).alloc (.cells #[.int .i64 0] 3)).heap.size = W7.heap.size + 2 := by simp
  generalize (W7.alloc (.cells #[.slice (some ⟨gw, ow, none⟩) (wholeL t fr).length cw] 46)).alloc (.cells #[.int .i64 0] 3) = W8 at *
  obtain ⟨n9, f9⟩ := one_blk hx9
  replace hz8 := Nat.le_of_eq hz8.symm
  replace hz0 := Nat.le_of_eq hz0.symm
  obtain ⟨g1, hag1, hg1a, hg1b⟩ := NdRow.blk HR5.out (fun e => by have := HG.out.formed.pos; rw [e] at this; simp at this)
  subst hag1
  refine wpIn_loop_rounds 3 ?_
  rw [roundsIn_succ]
  gi_wp2
  obtain ⟨a2, c2, b2, cb2, hbw, hbx, hI2, hF2, ha2, hb2⟩ := HS6.out
  have hz56 := HZ56.out
  have hz67 := HB67.out.size
  have hb68 := HB67.out.trans (hb8.mono HB67.out.size)
  have HB8 := Lib.hid (HB6.out.trans (hb68.mono HB6.out.size))
  have hI8 := (hI2.below hb68 (Nat.le_refl _)).mono hb68.size
  have hF8 := (hF2.below hb68 (Nat.le_refl _)).mono hb68.size
  have hx68 := (hb68.block _ (lt_of_heap hbx)).trans hbx
  have hb9 := ba1 W8 (.cells #[.int .i64 0] 3)
  have hx10 := heap_alloc_new W8 (.cells #[.int .i64 0] 3)
  have hb78 := hb8
  have HB08 := Lib.hid (HB07.out.trans (hb8.mono HB07.out.size))
  have HX18 := Lib.hid ((HB08.out.block w.heap.size (by omega)).trans HX1.out)
  have HX28 := Lib.hid ((HB08.out.block (w.heap.size + 1) (by omega)).trans HX2.out)
  have hz08 := HB07.out.size
  have HN := Lib.hid (show (wholeL t fr).length ≤ 4096 by
    have h1 := walkN_len HBe.out (t.length) (t.length - 1) 1 (by have := HG.out.formed.pos; omega) (by have := HG.out.formed.pos; omega)
    unfold wholeL
    have := HG.out.le
    omega)
  have hz9 : (W8.alloc (.cells #[.int .i64 0] 3)).heap.size = W8.heap.size + 1 := by simp
  generalize W8.alloc (.cells #[.int .i64 0] 3) = W9 at *
  replace hz9 := Nat.le_of_eq hz9.symm
  have hx69 := (hb9.block _ (lt_of_heap hx68)).trans hx68
  obtain ⟨⟨z0, z1⟩, _⟩ := two_block hx69
  have hst := walk1_stops a2 c2 t b2 cb2 fr HG.out W8.heap.size bw (3 - 1) W9 (lt_of_heap hx69) (by omega) z0 z1 (hI8.below hb9 (Nat.le_refl _)) (hF8.below hb9 (Nat.le_refl _))
  obtain ⟨m0, mf⟩ := one_blk hx10
  apply wpIn_rangeFunc_ownF (n := 3) rfl (by decide) (gf := 46) (lb := #[.pointer (some ⟨bw, 0, none⟩)]) rfl trivial (enters_of Tryz.func46 (by kernel_rfl) rfl) hst keepBut_t keepBut_b (Below.refl _ _) (fun _ => rfl)
    (fun pre W => ((W.cell? ⟨W8.heap.size, 0, none⟩ = some (.int .i64 (pre.length : Int)) ∧ W.frozen? ⟨W8.heap.size, 0, none⟩ = false) ∧ elts pre <+: wholeL t fr) ∧ Below W8.heap.size W9 W)
    (fun c pre W => (c = .ret ∧ ¬ elts pre <+: wholeL t fr) ∨ (c = .exit 2 ∧ Below W8.heap.size W9 W))
    (OwnFrom.and (Own.from (fun s A B row hs hg hr => ⟨⟨cell_kept hs.1.1 hg hr, (frozen_kept hs.1.1 hg hr).trans hs.1.2⟩, hs.2⟩) _) (ownFrom_below (by omega) (by omega)))
    (ix_own (by omega) (by omega))
    ⟨⟨⟨m0, mf⟩, List.nil_prefix⟩, Below.refl _ _⟩
  case hassign =>
    intro l x W K hK
    dsimp only [eltV]
    gi_wp2
    exact hK
  case hbody =>
    rintro l pre x W ⟨⟨⟨hc, hf⟩, hp⟩, hb⟩ hlen
    have hnx := pre_next x hp (List.getElem?_eq_getElem hlen)
    obtain ⟨⟨p, dp⟩, hat⟩ := x
    have hb89 := hb9.trans hb
    have w14 := (one_blk ((hb89.block _ (by omega)).trans hx8)).1
    have w15 := (one_blk ((hb89.block _ (by omega)).trans hx9)).1
    have w5 := (one_blk ((hb89.block _ (by omega)).trans HX18.out)).1
    obtain ⟨w6, w6f⟩ := one_blk ((hb89.block _ (by omega)).trans HX28.out)
    obtain ⟨hgl, s0, s1⟩ := step_at HSt7.out hlen
    rw [← hb78.cell (p := ⟨gw, ow + pre.length * 2, none⟩) hgl, ← hb89.cell (p := ⟨gw, ow + pre.length * 2, none⟩) (by show gw < _; omega)] at s0
    rw [← hb78.cell (p := ⟨gw, ow + pre.length * 2 + 1, none⟩) hgl, ← hb89.cell (p := ⟨gw, ow + pre.length * 2 + 1, none⟩) (by show gw < _; omega)] at s1
    have t1 : decide (((wholeL t fr).length : Int) ≤ (pre.length : Int)) = false := decide_eq_false (by omega)
    have i0 : (0 : Int) ≤ (pre.length : Int) := by omega
    have i1 : (pre.length : Int) < ((wholeL t fr).length : Int) := by omega
    have HNl := HN.out
    have Hnx := Lib.hid hnx
    have Hp := Lib.hid hp
    have Hb := Lib.hid hb
    obtain ⟨el, hel⟩ : ∃ el, el = (wholeL t fr)[pre.length] := ⟨_, rfl⟩
    rw [← hel] at s0 s1 hnx
    have Hnx := Lib.hid hnx
    clear hnx hp hb hel hb89
    obtain ⟨q1, q2⟩ := el
    simp only at s0 s1
    dsimp only
    by_cases hq : p = q1 ∧ dp = q2
    · obtain ⟨rfl, rfl⟩ := hq
      have HP := Lib.hid (Hnx.out.2 rfl)
      have e1 : ((p : Int) != (p : Int)) = false := bne_self_eq_false _
      have e2 : ((dp : Int) != (dp : Int)) = false := bne_self_eq_false _
      by_cases hs : (pre.length : Int) + 1 = stop
      · have hs1 : ((pre.length : Int) + 1 == stop) = true := by rw [hs]; exact beq_self_eq_true _
        clear hs
        gi_wp2
        exact ⟨KeepsOthers.setCell _ _ _, .inr ⟨rfl, Hb.out.setCell (Nat.le_refl _) _⟩⟩
      · have hs1 : ((pre.length : Int) + 1 == stop) = false := by simpa using hs
        clear hs
        gi_wp2
        exact ⟨KeepsOthers.setCell _ _ _, keepBut_set0 _ _ _, ⟨⟨cell_set0 hc (by simp), (World.frozen?_setCell ..).trans hf⟩, HP.out⟩, Hb.out.setCell (Nat.le_refl _) _⟩
    · have HP := Lib.hid (fun e => hq (by have := Hnx.out.1 e; simpa using this))
      clear hq
      by_cases hq1 : p = q1
      · subst hq1
        have e1 : ((p : Int) != (p : Int)) = false := bne_self_eq_false _
        by_cases hq2 : dp = q2
        · exact absurd (Hnx.out.2 (by rw [hq2])) HP.out
        · have e2 : ((dp : Int) != (q2 : Int)) = true := by rw [bne_iff_ne]; omega
          clear hq2
          gi_wp2
          exact ⟨KeepsOthers.setCell _ _ _, .inl ⟨rfl, HP.out⟩⟩
      · have e1 : ((p : Int) != (q1 : Int)) = true := by rw [bne_iff_ne]; omega
        clear hq1
        gi_wp2
        exact ⟨KeepsOthers.setCell _ _ _, .inl ⟨rfl, HP.out⟩⟩
  case' hdone =>
    rintro D ys W hD hys ⟨⟨⟨hc, hf⟩, hp⟩, hb⟩ hK
    clear hys hp hc hf ys
  case' hstop =>
    rintro D c pre W hD hp hx hK
    rcases hx with ⟨_, hx⟩ | ⟨rfl, hb⟩
    · exact absurd hp hx
    clear hp pre
  all_goals
    have hb89 := hb9.trans hb
    obtain ⟨w15, w15f⟩ := one_blk ((hb89.block _ (by omega)).trans hx9)
    have HRW := Lib.hid (OwnI.of (show NdRow W W0.heap.size (.slice (some ⟨g1, 0, none⟩) t.length c1) t from HR7.out.belowed (hb78.trans (hb89.mono (by omega)))))
    have HBW := Lib.hid (HB8.out.trans (hb89.mono HB8.out.size))
    have hWz := hb89.size
    have HK := Lib.hid hK
    have Hb89 := Lib.hid hb89
    clear hb hb89 hK hst hx69
    gi_wp2
    gi_loopw [19] (fun v19 wr => ∃ i : Nat, i ≤ t.length ∧ v19 = .int .i64 (i : Int) ∧ OwnI wr g1 c1 t.length ∧ SameTo g1 W.heap.size W wr ∧ Below w.heap.size w wr) (fun v19 _ => t.length - (intOf v19).toNat)
    case atStart => exact ⟨0, by omega, rfl, HRW.out, ⟨Nat.le_refl _, fun _ _ _ => rfl⟩, HBW.out⟩
    case round =>
      obtain ⟨i, hi, rfl, ho, hsm, hbl⟩ := hrel
      have u15 := (World.cell?_of_block (a := ⟨W7.heap.size + 1, 0, none⟩) (hsm.block (W7.heap.size + 1) (by omega) (by omega))).trans w15
      have u15f := (World.frozen?_of_block (a := ⟨W7.heap.size + 1, 0, none⟩) (hsm.block (W7.heap.size + 1) (by omega) (by omega))).trans w15f
      by_cases hlt : i < t.length
      · obtain ⟨⟨z, o1⟩, o2⟩ := ho.at_ hlt
        have i0 : (0 : Int) ≤ (i : Int) := by omega
        have i1 : (i : Int) < (t.length : Int) := by omega
        have HO := Lib.hid (fun x => ho.set hlt x)
        have HS := Lib.hid hsm
        have HBl := Lib.hid hbl
        clear ho hsm hbl
        gi_wp2
        go_roundw
        case rel => exact ⟨i + 1, by omega, by go_num, HO.out _, HS.out.set _ _, HBl.out.setCell (p := ⟨g1, _, none⟩) (by show w.heap.size ≤ g1; omega) _⟩
        case measure => simp [intOf]; omega
      · obtain rfl : i = t.length := by omega
        have HO := Lib.hid ho
        have HS := Lib.hid hsm
        have HBl := Lib.hid hbl
        clear ho hsm hbl
        gi_wp2
        rw [roundsIn_succ]
        gi_wp2
        have hxt : ((wr.alloc (.cells #[.int .i64 1] 3)).alloc (.cells #[.int .i64 0] 3)).heap[wr.heap.size]? = some (.cells #[.int .i64 1] 3 (0, 0)) := (Below.heap_alloc _ _ _ (by simp)).trans (heap_alloc_new _ _)
        have hxn : ((wr.alloc (.cells #[.int .i64 1] 3)).alloc (.cells #[.int .i64 0] 3)).heap[wr.heap.size + 1]? = some (.cells #[.int .i64 0] 3 (0, 0)) := by
          have := heap_alloc_new (wr.alloc (.cells #[.int .i64 1] 3)) (.cells #[.int .i64 0] 3)
          rwa [World.size_alloc] at this
        have hbX : Below wr.heap.size wr ((wr.alloc (.cells #[.int .i64 1] 3)).alloc (.cells #[.int .i64 0] 3)) := (ba1 _ _).alloc (ba1 _ _).size _
        have hzX : wr.heap.size + 2 ≤ ((wr.alloc (.cells #[.int .i64 1] 3)).alloc (.cells #[.int .i64 0] 3)).heap.size := by simp
        generalize (wr.alloc (.cells #[.int .i64 1] 3)).alloc (.cells #[.int .i64 0] 3) = X at *
        have hWr := HS.out.size
        have hsX : SameTo g1 W8.heap.size W8 X := ((SameTo.of Hb89.out (Nat.le_refl _)).trans (HS.out.mono hWz)).trans ((SameTo.of hbX (Nat.le_refl _)).mono (by omega))
        have hxw := (hsX.block bw (lt_of_heap hx68) (by omega)).trans hx68
        obtain ⟨⟨v0, v1⟩, _⟩ := two_block hxw
        have hst2 := walk1_stops a2 c2 t b2 cb2 fr HG.out (wr.heap.size + 1) bw (3 - 1) X (lt_of_heap hxw) (by omega) v0 v1 ((hsX.sl hI8 (Nat.le_refl _) (fun b off e => by have := ha2 b off e; omega)).mono (by omega)) ((hsX.sl hF8 (Nat.le_refl _) (fun b off e => by have := hb2 b off e; omega)).mono (by omega))
        obtain ⟨p0, pf⟩ := one_blk hxn
        have HSX := Lib.hid hsX
        have HKX := Lib.hid (((hbX.block D (by have := lt_of_heap HK.out; omega)).trans (HS.out.block D (lt_of_heap HK.out) (by omega))).trans HK.out)
        have HBX := Lib.hid (HBl.out.trans (hbX.mono HBl.out.size))
        have hxt' := hxt
        clear hsX hxw v0 v1 u15 u15f w15 w15f hlt
        apply wpIn_rangeFunc_ownF (n := 3) rfl (by decide) (gf := 46) (lb := #[.pointer (some ⟨bw, 0, none⟩)]) rfl trivial (enters_of Tryz.func46 (by kernel_rfl) rfl) hst2 keepBut_t keepBut_b (Below.refl _ _) (fun _ => rfl)
          (fun pre W => ((W.cell? ⟨wr.heap.size + 1, 0, none⟩ = some (.int .i64 (pre.length : Int)) ∧ W.frozen? ⟨wr.heap.size + 1, 0, none⟩ = false) ∧ elts pre <+: wholeL t fr) ∧ Below (wr.heap.size + 1) X W)
          (fun c pre _ => c = .ret ∧ ¬ elts pre <+: wholeL t fr)
          (OwnFrom.and (Own.from (fun s A B row hs hg hr => ⟨⟨cell_kept hs.1.1 hg hr, (frozen_kept hs.1.1 hg hr).trans hs.1.2⟩, hs.2⟩) _) (ownFrom_below (by omega) (by omega)))
          (fun _ _ _ _ _ hs _ _ => hs)
          ⟨⟨⟨p0, pf⟩, List.nil_prefix⟩, Below.refl _ _⟩
        case hassign =>
          intro l x W K hK
          dsimp only [eltV]
          gi_wp2
          exact hK
        case hbody =>
          rintro l pre x W' ⟨⟨⟨hc, hf⟩, hp⟩, hb⟩ hlen
          have hnx := pre_next x hp (List.getElem?_eq_getElem hlen)
          obtain ⟨⟨p, dp⟩, hat⟩ := x
          have hsW := HSX.out.trans ((SameTo.of hb (by omega)).mono (show W8.heap.size ≤ wr.heap.size + 1 by omega))
          have w14 := (one_blk ((hsW.block _ (by omega) (by omega)).trans hx8)).1
          have w15 := (one_blk ((hb.block _ (by omega)).trans hxt)).1
          obtain ⟨w6, w6f⟩ := one_blk ((hsW.block _ (by omega) (by omega)).trans HX28.out)
          obtain ⟨hgl, s0, s1⟩ := step_at HSt7.out hlen
          have hgwl := HGw.out.1
          have sw := World.cell?_of_block (a := ⟨gw, ow + pre.length * 2, none⟩) (hsW.block gw (by omega) (by omega))
          have sw1 := World.cell?_of_block (a := ⟨gw, ow + pre.length * 2 + 1, none⟩) (hsW.block gw (by omega) (by omega))
          rw [← hb78.cell (p := ⟨gw, ow + pre.length * 2, none⟩) hgl, ← sw] at s0
          rw [← hb78.cell (p := ⟨gw, ow + pre.length * 2 + 1, none⟩) hgl, ← sw1] at s1
          have t1 : decide (((wholeL t fr).length : Int) ≤ (pre.length : Int)) = false := decide_eq_false (by omega)
          have i0 : (0 : Int) ≤ (pre.length : Int) := by omega
          have i1 : (pre.length : Int) < ((wholeL t fr).length : Int) := by omega
          have HNl := HN.out
          have Hb := Lib.hid hb
          obtain ⟨el, hel⟩ : ∃ el, el = (wholeL t fr)[pre.length] := ⟨_, rfl⟩
          rw [← hel] at s0 s1 hnx
          have Hnx := Lib.hid hnx
          clear hnx hp hb hel hsW sw sw1
          obtain ⟨q1, q2⟩ := el
          simp only at s0 s1
          dsimp only
          by_cases hq : p = q1 ∧ dp = q2
          · obtain ⟨rfl, rfl⟩ := hq
            have HP := Lib.hid (Hnx.out.2 rfl)
            have e1 : ((p : Int) != (p : Int)) = false := bne_self_eq_false _
            have e2 : ((dp : Int) != (dp : Int)) = false := bne_self_eq_false _
            gi_wp2
            exact ⟨KeepsOthers.setCell _ _ _, keepBut_set0 _ _ _, ⟨⟨cell_set0 hc (by simp), (World.frozen?_setCell ..).trans hf⟩, HP.out⟩, Hb.out.setCell (Nat.le_refl _) _⟩
          · have HP := Lib.hid (fun e => hq (by have := Hnx.out.1 e; simpa using this))
            clear hq
            by_cases hq1 : p = q1
            · subst hq1
              have e1 : ((p : Int) != (p : Int)) = false := bne_self_eq_false _
              by_cases hq2 : dp = q2
              · exact absurd (Hnx.out.2 (by rw [hq2])) HP.out
              · have e2 : ((dp : Int) != (q2 : Int)) = true := by rw [bne_iff_ne]; omega
                clear hq2
                gi_wp2
                exact ⟨KeepsOthers.setCell _ _ _, rfl, HP.out⟩
            · have e1 : ((p : Int) != (q1 : Int)) = true := by rw [bne_iff_ne]; omega
              clear hq1
              gi_wp2
              exact ⟨KeepsOthers.setCell _ _ _, rfl, HP.out⟩
        case hstop =>
          rintro D2 c pre W2 hD2 hp ⟨_, hx⟩ hK2
          exact absurd hp hx
        case hdone =>
          rintro D2 ys W2 hD2 hys ⟨⟨⟨hc, hf⟩, hp⟩, hb⟩ hK2
          have hyl : (wholeL t fr).length = ys.length := by rw [← hys]; exact elts_len ys
          have hsW := HSX.out.trans ((SameTo.of hb (by omega)).mono (show W8.heap.size ≤ wr.heap.size + 1 by omega))
          have w14 := (one_blk ((hsW.block _ (by omega) (by omega)).trans hx8)).1
          obtain ⟨w15, w15f⟩ := one_blk ((hb.block _ (by omega)).trans hxt)
          obtain ⟨w6, w6f⟩ := one_blk ((hsW.block _ (by omega) (by omega)).trans HX28.out)
          have HKD := Lib.hid ((hb.block D (by have := lt_of_heap HK.out; omega)).trans HKX.out)
          have HK2 := Lib.hid hK2
          have HB2' := Lib.hid (HBX.out.trans (hb.mono (by omega)))
          have e3 : ((ys.length : Int) != ((wholeL t fr).length : Int)) = false := by rw [hyl]; exact bne_self_eq_false _
          have hXz := hb.size
          clear hys hp hb hK2 hyl hsW
          gi_wp2
          refine wpIn_loop_rounds 1 ?_
          rw [roundsIn_succ]
          gi_wp2
          have u6 := ((ba1 W2 (.cells #[.int .i64 2] 3)).cell (p := ⟨w.heap.size + 1, 0, none⟩) (by show w.heap.size + 1 < _; omega)).trans w6
          have u6f := ((ba1 W2 (.cells #[.int .i64 2] 3)).frozen (p := ⟨w.heap.size + 1, 0, none⟩) (by show w.heap.size + 1 < _; omega)).trans w6f
          rw [roundsIn_succ]
          gi_wp2
          have hXW := HSX.out.size
          have hDl := lt_of_heap HK.out
          have hD2l := lt_of_heap HK2.out
          have hq2 : ((W2.alloc (.cells #[.int .i64 2] 3)).setCell ⟨w.heap.size + 1, 0, none⟩ (.bool true)).heap[D2]? = some (.deferred (some [])) := (heap_setCell_other _ _ _ _ (by show D2 ≠ w.heap.size + 1; omega)).trans (((ba1 W2 _).block D2 hD2l).trans HK2.out)
          have hq1 : ((W2.alloc (.cells #[.int .i64 2] 3)).setCell ⟨w.heap.size + 1, 0, none⟩ (.bool true)).heap[D]? = some (.deferred (some [])) := (heap_setCell_other _ _ _ _ (by show D ≠ w.heap.size + 1; omega)).trans (((ba1 W2 _).block D (by omega)).trans HKD.out)
          have hcq : ((W2.alloc (.cells #[.int .i64 2] 3)).setCell ⟨w.heap.size + 1, 0, none⟩ (.bool true)).cell? ⟨w.heap.size + 1, 0, none⟩ = some (.bool true) := World.cell?_setCell_same' _ _ _ (by rw [u6]; rfl)
          have hbq : Below w.heap.size w ((W2.alloc (.cells #[.int .i64 2] 3)).setCell ⟨w.heap.size + 1, 0, none⟩ (.bool true)) := (HB2'.out.trans ((ba1 W2 _).mono HB2'.out.size)).setCell (by show w.heap.size ≤ w.heap.size + 1; omega) _
          generalize (W2.alloc (.cells #[.int .i64 2] 3)).setCell ⟨w.heap.size + 1, 0, none⟩ (.bool true) = Wf at *
          have hcz := cell_kept (cell_kept hcq (grownBy_putObj' Wf D2 (.deferred none)) (fun r e => by cases e; exact ⟨_, hq2, rfl⟩)) (grownBy_putObj' (Wf.putObj D2 (.deferred none)) D (.deferred none)) (fun r e => by cases e; exact ⟨_, (World.putObj_heap_other (by omega)).trans hq1, rfl⟩)
          refine ⟨by simp, .inl ⟨_, _, rfl, run_takeDeferred hq2, ?_⟩⟩
          refine ⟨by simp, .inl ⟨_, _, rfl, run_takeDeferred ((World.putObj_heap_other (by omega)).trans hq1), ?_⟩⟩
          refine ⟨.bool true, by simp [results, Tryz.results4, go_sem, hcz], rfl, ?_⟩
          exact (hbq.trans (belowK_b (w := w) (Nat.le_refl _) Wf D2 _ _ (by omega) hq2 rfl rfl)).trans (belowK_b (w := w) (Nat.le_refl _) _ D _ _ (by omega) ((World.putObj_heap_other (by omega)).trans hq1) rfl rfl)
end Go.Proofs.YtkokdafkjjcgoaaGreatDoor

