/- Going over a tree, where a round makes a row longer: the program's walk. · A region that draws its order within a round of a loop over a function: by the laws for a plain region. Nothing of the program. -/
import Derived.Test.YtbbaooeioogijaaDoorMg24
import Derived.OrdersIn
import Derived.RangeFuncCalls
import Derived.OwnWalkIn
import Derived.Deep.AppendLies
import Derived.Test.YtbbaooeioogijaaDoorMg10
namespace Go.Proofs.YtbbaooeioogijaaDoor
open Go.RowKit Go.Shelf

attribute [local go_sem] Oper.semAt_some

/-- the block of the row that box bn holds -/
def rowB (bn : Nat) (W : World) : Option Nat := (W.cell? ⟨bn, 0, none⟩).bind Value.ownBlock
def RowOk (bn : Nat) (W : World) : Prop := (W.cell? ⟨bn, 0, none⟩).isSome = true ∧ ∀ g, rowB bn W = some g → bn < g ∧ g < W.heap.size
/-- what a round keeps: whatever is cells, but for one block and the row that it holds -/
structure KeepR (bn : Nat) (W W' : World) : Prop where
  os : W'.os = W.os
  tape : W'.tape = W.tape
  output : W'.output = W.output
  size : W.heap.size ≤ W'.heap.size
  rest : RowOk bn W → RowOk bn W' ∧ (∀ (k : Nat) (o : Obj), k ≠ bn → rowB bn W ≠ some k → W.heap[k]? = some o → o.isCells = true → W'.heap[k]? = some o) ∧ ∀ g, rowB bn W' = some g → rowB bn W = some g ∨ W.heap.size ≤ g
theorem KeepR.refl (bn : Nat) (W : World) : KeepR bn W W := ⟨rfl, rfl, rfl, Nat.le_refl _, fun h => ⟨h, fun _ _ _ _ h _ => h, fun _ h => .inl h⟩⟩
theorem KeepR.trans {bn : Nat} {A B C : World} (h : KeepR bn A B) (k : KeepR bn B C) : KeepR bn A C :=
  ⟨k.os.trans h.os, k.tape.trans h.tape, k.output.trans h.output, Nat.le_trans h.size k.size, fun hA => by
    obtain ⟨hB, b1, b2⟩ := h.rest hA
    obtain ⟨hC, c1, c2⟩ := k.rest hB
    refine ⟨hC, fun i o hi hr ho hc => c1 i o hi (fun e => ?_) (b1 i o hi hr ho hc) hc, fun g e => ?_⟩
    · rcases b2 i e with e | e
      · exact hr e
      · have := lt_of_heap ho; omega
    · rcases c2 g e with e | e
      · exact b2 g e
      · exact .inr (Nat.le_trans h.size e)⟩
theorem rowB_below {bn : Nat} {W W' : World} (h : Below W.heap.size W W') (hb : bn < W.heap.size) : rowB bn W' = rowB bn W := by unfold rowB; rw [h.cell hb]
theorem RowOk.below {bn : Nat} {W W' : World} (h : RowOk bn W) (hb : Below W.heap.size W W') (hbn : bn < W.heap.size) : RowOk bn W' :=
  ⟨by rw [hb.cell hbn]; exact h.1, fun g e => by rw [rowB_below hb hbn] at e; exact ⟨(h.2 g e).1, Nat.lt_of_lt_of_le (h.2 g e).2 hb.size⟩⟩
theorem KeepR.of_below {bn : Nat} {W W' : World} (h : Below W.heap.size W W') (hbn : bn < W.heap.size) : KeepR bn W W' :=
  ⟨h.os, h.tape, h.output, h.size, fun hr => ⟨hr.below h hbn, fun k _ _ _ ho _ => (h.block k (lt_of_heap ho)).trans ho, fun g e => .inl (by rw [← rowB_below h hbn]; exact e)⟩⟩
theorem KeepR.cell {bn : Nat} {W W' : World} (h : KeepR bn W W') (hr : RowOk bn W) {p : Addr} {v : Value} (hp : p.block ≠ bn) (hg : rowB bn W ≠ some p.block) (hc : W.cell? p = some v) : W'.cell? p = some v := by
  unfold World.cell? at hc ⊢
  split at hc
  · rename_i cs T fz hb
    rw [(h.rest hr).2.1 _ _ hp hg hb rfl]
    exact hc
  · cases hc
theorem KeepR.sl {α : Type} {kk : Nat} {cells : α → List Value} {bn B : Nat} {W W' : World} (h : KeepR bn W W') (hr : RowOk bn W) {a : Option Addr} {L : List α} (hs : IsSl kk cells B W a L) (hB : B ≤ bn) : IsSl kk cells B W' a L := fun hn => by
  obtain ⟨b, off, ha, hlt, hc⟩ := hs hn
  exact ⟨b, off, ha, hlt, fun i x hx j u hu => h.cell hr (by show b ≠ bn; omega) (fun e => by have := (hr.2 _ e).1; simp only at this; omega) (hc i x hx j u hu)⟩
/-- how going over ends -/
def WalkEndR {t : List Nd} (L : List (Nat × Nat)) (bn : Nat) (J Jx : List (Elt t) → World → Prop) (pre : List (Elt t)) (W : World) (e : Ending) (W' : World) : Prop :=
  (e = .returned (.bool true) ∧ ∃ q, elts q = L ∧ J (pre ++ q) W' ∧ KeepR bn W W') ∨ (e = .returned (.bool false) ∧ ∃ q, elts q <+: L ∧ Jx (pre ++ q) W')

set_option maxRecDepth 100000 in
set_option maxHeartbeats 4000000 in
theorem walkR_in (a : Option Addr) (cap : Nat) (t : List Nd) (b : Option Addr) (capb : Nat) (fr : List Nat) (hG : Given t fr) (l bn N B : Nat) (J Jx : List (Elt t) → World → Prop) (hJ : AbidesFrom B J)
    (hY : ∀ m pre (x : Elt t) W, J pre W → pre.length < N → YieldAt Fence.wide m Tryd.prog l (eltV x) W fun e W' =>
      (e = .returned (.bool true) ∧ J (pre ++ [x]) W' ∧ KeepR bn W W') ∨ (e = .returned (.bool false) ∧ Jx (pre ++ [x]) W')) :
    ∀ (m k d n : Nat) (pre : List (Elt t)) (W : World), k < m → k < t.length → d + k ≤ 10000 → IsNds bn W a t → IsNats bn W b fr → bn < W.heap.size → RowOk bn W → J pre W → pre.length + (walkN t fr k d).length ≤ N →
      CallsIn Fence.wide n Tryd.prog 36 #[.agg #[.slice a t.length cap, .slice b fr.length capb], .int .i64 (k : Int), .int .i64 (d : Int), .func (.yield l) #[] #[]] W (WalkEndR (walkN t fr k d) bn J Jx pre W)
  | 0, k, _, _, _, _, hk, _, _, _, _, _, _, _, _ => by omega
  | m + 1, k, d, n, pre, W, hkm, hk, hdk, hI, hF, hbn, hro, hj, hN => by
    have hw := walkN_eq hG.formed k d
    have HP := Lib.hid (fun (q : Nat) (h : q ∈ partsAt t fr k) => hG.formed.parts_lt h)
    have HPt := Lib.hid (fun W1 (hI : IsNds W1.heap.size W1 a t) (hF : IsNats W1.heap.size W1 b fr) => tparts_ok a cap t b capb fr W1 hI hF hG.le hG.formed k hk)
    have HRec := Lib.hid (fun p d n pre W h1 h2 h3 h4 h5 h6 h7 h8 h9 => walkR_in a cap t b capb fr hG l bn N B J Jx hJ hY m p d n pre W h1 h2 h3 h4 h5 h6 h7 h8 h9)
    generalize hPq : partsAt t fr k = P at *
    have HWq := Lib.hid hw
    have hpl : P.length ≤ 4096 := by rw [← hPq, partsAt_is (List.getElem?_eq_getElem hk), partsE_length]; have := (hG.formed.node k _ (List.getElem?_eq_getElem hk)).2.1.le; have := hG.le; omega
    clear hw hPq
    have hx0 : (W.alloc (.cells #[.slice a t.length cap, .slice b fr.length capb] 105)).heap[W.heap.size]? = some (.cells #[.slice a t.length cap, .slice b fr.length capb] 105 (0, 0)) := heap_alloc_new _ _
    have hb0 : Below W.heap.size W (W.alloc (.cells #[.slice a t.length cap, .slice b fr.length capb] 105)) := ba1 _ _
    have hz0 : W.heap.size < (W.alloc (.cells #[.slice a t.length cap, .slice b fr.length capb] 105)).heap.size := by simp
    have hdd : ∀ k : Nat, (Fence.wide.depth.isSome = true → 1 ≤ k) := fun k h => by cases h
    have hlen : pre.length < N := by have := congrArg List.length HWq.out; rw [List.length_cons] at this; omega
    have hYW := hY (n - 1) pre ⟨(k, d), hk⟩ _ (abides_below hJ hj hb0) hlen
    refine callsIn_of_wp Tryd.func36 rfl trivial ?_ rfl
    simp only [Tryd.ntmps36, List.size_toArray, List.length_cons, List.length_nil, Nat.reduceAdd, Nat.reduceSub, Array.replicate_succ, Array.replicate_zero, List.push_toArray, List.append_toArray, List.nil_append, List.cons_append]
    obtain ⟨fn, tmps, assign, body, hy, hR⟩ := hYW
    have HJ := Lib.hid hJ
    have HI := Lib.hid hI
    have HF := Lib.hid hF
    have HX0 := Lib.hid hx0
    have HB0 := Lib.hid hb0
    have HR := Lib.hid hR
    have HN := Lib.hid hN
    clear hj hI hF hx0 hb0 hJ hY hR hN
    dsimp only [eltV] at hy
    gi_wp2
    refine ⟨hdd _, ?_⟩
    refine HR.out.mono ?_
    rintro e W1 (⟨rfl, hj1, hk1⟩ | ⟨rfl, hj1⟩)
    · have hro0 := hro.below HB0.out hbn
      have hr0 := rowB_below HB0.out hbn
      have hne0 : rowB bn (W.alloc (.cells #[.slice a t.length cap, .slice b fr.length capb] 105)) ≠ some W.heap.size := fun e => by rw [hr0] at e; have := (hro.2 _ e).2; omega
      have hx1 := (hk1.rest hro0).2.1 _ _ (by omega) hne0 HX0.out rfl
      have hro1 := (hk1.rest hro0).1
      have hrw1 : ∀ g, rowB bn W1 = some g → g ≠ W.heap.size := fun g e => by
        rcases (hk1.rest hro0).2.2 g e with e | e
        · rw [hr0] at e; have := (hro.2 _ e).2; omega
        · omega
      clear hr0 hne0
      have HX1 := Lib.hid hx1
      have HK1 := Lib.hid ((KeepR.of_below (bn := bn) HB0.out hbn).trans hk1)
      have HJ1 := Lib.hid hj1
      obtain ⟨⟨z0, z1⟩, _⟩ := two_block hx1
      have hz1 := lt_of_heap hx1
      have hbn1 : bn < W1.heap.size := by omega
      have hI1 := HK1.out.sl hro HI.out (Nat.le_refl _)
      have hF1 := HK1.out.sl hro HF.out (Nat.le_refl _)
      have HP1 := Lib.hid (HPt.out W1 (hI1.mono (by omega)) (hF1.mono (by omega)))
      clear hj1 hk1 hx1 hI1 hF1
      gi_wp2_with (refine ⟨trivial, hdd _, ?_⟩; gi_at_call 50; refine (callsIn_wide.2 HP1.out).mono ?_; rintro e W2 ⟨⟨v, rfl, hrow⟩, hb2⟩; have HR2 := Lib.hid hrow; have HB2 := Lib.hid hb2; obtain ⟨pa, pc, rfl, hN2, _⟩ := hrow.is; have HN2 := Lib.hid hN2; clear hrow hb2 hN2)
      have hN2g := nat_far_any HR2.out
      have hx2 := (HB2.out.block _ hz1).trans HX1.out
      obtain ⟨⟨y0, y1⟩, _⟩ := two_block hx2
      have hK2 := HK1.out.trans (KeepR.of_below (bn := bn) HB2.out hbn1)
      have hro2 := hro1.below HB2.out hbn1
      have hrw2 : ∀ g, rowB bn W2 = some g → g ≠ W.heap.size ∧ g < W1.heap.size := fun g e => by rw [rowB_below HB2.out hbn1] at e; exact ⟨hrw1 g e, (hro1.2 g e).2⟩
      have hj2 := abides_below HJ.out HJ1.out HB2.out
      have HG := Lib.hid hN2g
      have HX2 := Lib.hid hx2
      have HK2 := Lib.hid hK2
      have HJ2 := Lib.hid hj2
      have hz2 := lt_of_heap hx2
      have HI2 := Lib.hid (HK2.out.sl hro HI.out (Nat.le_refl _))
      have HF2 := Lib.hid (HK2.out.sl hro HF.out (Nat.le_refl _))
      have hbn2 : bn < W2.heap.size := by omega
      clear hx2 hK2 hj2 hN2g
      gi_loopw [20] (fun v20 wr => ∃ (i : Nat) (q : List (Elt t)), i ≤ P.length ∧ v20 = .int .i64 (i : Int) ∧ elts q = (k, d) :: doneF t fr P (d + 1) i ∧ J (pre ++ q) wr ∧ KeepR bn W2 wr) (fun v20 _ => P.length - (intOf v20).toNat)
      case atStart => exact ⟨0, [⟨(k, d), hk⟩], by omega, rfl, rfl, HJ2.out, KeepR.refl _ _⟩
      case round =>
        obtain ⟨i, q, hi, rfl, hq, hjr, hkr⟩ := hrel
        have HQ := Lib.hid hq
        have HJr := Lib.hid hjr
        have HKr := Lib.hid hkr
        clear hq hjr hkr
        by_cases hlt : i < P.length
        · obtain ⟨pb, po, hpa, hpb, c2⟩ := nats_at HN2.out hlt
          subst hpa
          have hpn := HG.out _ _ _ _ rfl (by omega)
          have c3 := HKr.out.cell hro2 (p := ⟨pb, po + i, none⟩) (by show pb ≠ bn; omega) (fun e => by have := (hrw2 _ e).2; simp only at this; omega) c2
          have r0 := HKr.out.cell hro2 (p := ⟨W.heap.size, 0, none⟩) (by show W.heap.size ≠ bn; omega) (fun e => (hrw2 _ e).1 rfl) y0
          have r1 := HKr.out.cell hro2 (p := ⟨W.heap.size, 1, none⟩) (by show W.heap.size ≠ bn; omega) (fun e => (hrw2 _ e).1 rfl) y1
          obtain ⟨p, hp⟩ : ∃ p, p = P[i] := ⟨_, rfl⟩
          rw [← hp] at c3
          have hpk := HP.out p (by rw [hp]; exact List.getElem_mem hlt)
          have hdn := done_next (t := t) (fr := fr) (d := d + 1) hlt
          have hdp := List.IsPrefix.length_le (done_pre (t := t) (fr := fr) (P := P) (d := d + 1) (i := i + 1))
          have hql := elts_len q
          have hwl := congrArg List.length HWq.out
          rw [HQ.out] at hql
          rw [hdn, List.length_append, ← hp] at hdp
          rw [List.length_cons] at hwl hql
          have hNr := HN.out
          have HC := Lib.hid (HRec.out p (d + 1) (n - 1) (pre ++ q) wr (by omega) (by omega) (by omega) (HKr.out.sl hro2 HI2.out (Nat.le_refl _)) (HKr.out.sl hro2 HF2.out (Nat.le_refl _)) (by have := HKr.out.size; omega) (HKr.out.rest hro2).1 HJr.out (by rw [List.length_append]; omega))
          have HDn := Lib.hid (show doneF t fr P (d + 1) (i + 1) = doneF t fr P (d + 1) i ++ walkN t fr p (d + 1) by rw [hdn, ← hp])
          clear c2 hp hdn hdp hql hwl hNr
          gi_wp2_with (refine ⟨trivial, hdd _, ?_⟩; gi_at_call 36; refine HC.out.mono ?_; rintro e W3 (⟨rfl, q3, hq3, hj3, hk3⟩ | ⟨rfl, q3, hq3, hj3⟩))
          · have HQ3 := Lib.hid (show elts (q ++ q3) = (k, d) :: doneF t fr P (d + 1) (i + 1) by rw [elts_app, HQ.out, hq3, HDn.out]; rfl)
            have HJ3 := Lib.hid (show J (pre ++ (q ++ q3)) W3 by rw [← List.append_assoc]; exact hj3)
            clear hq3 hj3
            go_roundw
            case rel => exact ⟨i + 1, q ++ q3, by omega, by go_num, HQ3.out, HJ3.out, HKr.out.trans hk3⟩
            case measure => simp [intOf]; omega
          · have HQ3 := Lib.hid (show elts (q ++ q3) <+: walkN t fr k d by
              rw [elts_app, HQ.out, HWq.out]
              refine List.IsPrefix.trans ?_ (List.prefix_cons_inj (k, d) |>.2 (done_pre (t := t) (fr := fr) (P := P) (d := d + 1) (i := i + 1)))
              rw [HDn.out, List.cons_append]
              exact List.prefix_cons_inj _ |>.2 (List.prefix_append_right_inj _ |>.2 hq3))
            have HJ3 := Lib.hid (show Jx (pre ++ (q ++ q3)) W3 by rw [← List.append_assoc]; exact hj3)
            clear hq3 hj3
            go_ret
            exact .inr ⟨rfl, q ++ q3, HQ3.out, HJ3.out⟩
        · obtain rfl : i = P.length := by omega
          gi_wp2
          go_ret
          exact .inl ⟨rfl, q, by rw [HQ.out, HWq.out, done_all], HJr.out, HK2.out.trans HKr.out⟩
    · have HJ1 := Lib.hid hj1
      clear hj1
      gi_wp2
      go_ret
      exact .inr ⟨rfl, [⟨(k, d), hk⟩], by rw [HWq.out]; exact ⟨_, rfl⟩, HJ1.out⟩

set_option maxRecDepth 100000 in
set_option maxHeartbeats 4000000 in
theorem walk1R_in (a : Option Addr) (cap : Nat) (t : List Nd) (b : Option Addr) (capb : Nat) (fr : List Nat) (hG : Given t fr) (l bn bw n B : Nat) (J Jx : List (Elt t) → World → Prop) (hJ : AbidesFrom B J)
    (hY : ∀ m pre (x : Elt t) W, J pre W → pre.length < (wholeL t fr).length → YieldAt Fence.wide m Tryd.prog l (eltV x) W fun e W' =>
      (e = .returned (.bool true) ∧ J (pre ++ [x]) W' ∧ KeepR bn W W') ∨ (e = .returned (.bool false) ∧ Jx (pre ++ [x]) W'))
    (W : World) (z0 : W.cell? ⟨bw, 0, none⟩ = some (.slice a t.length cap)) (z1 : W.cell? ⟨bw, 1, none⟩ = some (.slice b fr.length capb)) (hI : IsNds bn W a t) (hF : IsNats bn W b fr) (hbn : bn < W.heap.size) (hro : RowOk bn W) (hj : J [] W) :
    CallsIn Fence.wide n Tryd.prog 35 #[.func (.yield l) #[] #[], .pointer (some ⟨bw, 0, none⟩)] W fun e W' => (∃ v, e = .returned v) ∧
      ((∃ ys, elts ys = wholeL t fr ∧ J ys W') ∨ (∃ pre, elts pre <+: wholeL t fr ∧ Jx pre W')) := by
  have hdd : ∀ k : Nat, (Fence.wide.depth.isSome = true → 1 ≤ k) := fun k h => by cases h
  obtain ⟨k, hk⟩ : ∃ k, t.length = k + 1 := ⟨t.length - 1, by have := hG.formed.pos; omega⟩
  have hle := hG.le
  have hw : wholeL t fr = walkN t fr k 1 := by unfold wholeL; rw [hk, Nat.add_sub_cancel]
  have HC := Lib.hid (walkR_in a cap t b capb fr hG l bn (wholeL t fr).length B J Jx hJ hY (k + 1) k 1 (n - 1) [] W (by omega) (by omega) (by omega) hI hF hbn hro hj (by rw [hw]; simp))
  have hk1 : (t.length : Int) - 1 = (k : Int) := by omega
  have HW := Lib.hid hw
  clear hJ hY hI hF hj hw hk
  refine callsIn_of_wp Tryd.func35 rfl trivial ?_ rfl
  simp only [Tryd.ntmps35, List.size_toArray, List.length_cons, List.length_nil, Nat.reduceAdd, Nat.reduceSub, Array.replicate_succ, Array.replicate_zero, List.push_toArray, List.append_toArray, List.nil_append, List.cons_append]
  gi_wp2_with (refine ⟨trivial, hdd _, ?_⟩; gi_at_call 36; refine HC.out.mono ?_; rintro e W3 (⟨rfl, q3, hq3, hj3, hk3⟩ | ⟨rfl, q3, hq3, hj3⟩))
  · go_end0
    exact ⟨⟨_, rfl⟩, .inl ⟨q3, by rw [HW.out, hq3], hj3⟩⟩
  · go_end0
    exact ⟨⟨_, rfl⟩, .inr ⟨q3, by rw [HW.out]; exact hq3, hj3⟩⟩
/-- **what Walk hands back, as a loop over it wants it** -/
theorem walk1R_stops (a : Option Addr) (cap : Nat) (t : List Nd) (b : Option Addr) (capb : Nat) (fr : List Nat) (hG : Given t fr) (bn bw n : Nat) (w : World) (hbw : bw < w.heap.size) (hbn : bn < w.heap.size)
    (z0 : w.cell? ⟨bw, 0, none⟩ = some (.slice a t.length cap)) (z1 : w.cell? ⟨bw, 1, none⟩ = some (.slice b fr.length capb)) (hI : IsNds bn w a t) (hF : IsNats bn w b fr) (hro : RowOk bn w) :
    SeqStopsK Fence.wide n Tryd.prog 35 #[.pointer (some ⟨bw, 0, none⟩)] (eltV (t := t)) (KeepR bn) (fun ys => elts ys = wholeL t fr) (fun pre => elts pre <+: wholeL t fr) (wholeL t fr).length w := fun l J Jx W hW hJ _ hY h0 =>
  walk1R_in a cap t b capb fr hG l bn bw n W.heap.size J Jx hJ (fun m pre x W1 hj hl => by
      obtain ⟨fn, tmps, assign, body, hy, hR⟩ := hY pre x W1 hj hl
      exact ⟨fn, tmps, assign, body, hy, hR.1, fun c cs _ => hR.2 c cs (room_wide _)⟩) W
    ((hW.cell (p := ⟨bw, 0, none⟩) hbw).trans z0) ((hW.cell (p := ⟨bw, 1, none⟩) hbw).trans z1) (hI.below hW (Nat.le_of_lt hbn)) (hF.below hW (Nat.le_of_lt hbn)) (Nat.lt_of_lt_of_le hbn hW.size) (hro.below hW hbn) h0
theorem keepR_t {bn : Nat} {A B C : World} (h : KeepR bn A B) (k : KeepR bn B C) : KeepR bn A C := h.trans k
theorem keepR_b {bn : Nat} {w : World} (W : World) (l : Nat) (o o' : Obj) (_ : w.heap.size ≤ l) (h : W.heap[l]? = some o) (hc : o.isCells = false) (_ : o.isWalk = false) : KeepR bn W (W.putObj l o') := by
  have hg := grownBy_putObj' W l o'
  refine ⟨rfl, rfl, rfl, hg.size, fun hr => ?_⟩
  have hbl : bn ≠ l := fun e => by
    subst e
    have h1 := hr.1
    unfold World.cell? at h1
    simp only [h] at h1
    cases o <;> simp_all [Obj.isCells]
  have hcl : (W.putObj l o').cell? ⟨bn, 0, none⟩ = W.cell? ⟨bn, 0, none⟩ := by
    by_cases hlt : bn < W.heap.size
    · exact World.cell?_of_block (a := ⟨bn, 0, none⟩) (hg.block bn hlt (fun e => hbl (by simpa using e)))
    · exfalso
      have h1 := hr.1
      unfold World.cell? at h1
      have : W.heap[bn]? = none := by rw [Array.getElem?_eq_none_iff]; omega
      simp only [this] at h1
      cases h1
  have hrb : rowB bn (W.putObj l o') = rowB bn W := by unfold rowB; rw [hcl]
  refine ⟨⟨by rw [hcl]; exact hr.1, fun g e => by rw [hrb] at e; exact ⟨(hr.2 g e).1, Nat.lt_of_lt_of_le (hr.2 g e).2 hg.size⟩⟩, fun k o2 _ _ hk hc2 => ?_, fun g e => .inl (by rw [← hrb]; exact e)⟩
  have hne : k ≠ l := fun e => by subst e; rw [h] at hk; cases hk; rw [hc] at hc2; cases hc2
  rw [hg.block k (lt_of_heap hk) (fun e => hne (by simpa using e))]
  exact hk
end Go.Proofs.YtbbaooeioogijaaDoor
namespace Go

/-- an end that is plain -/
def nrmQ (Q : Exit → Act → World → Prop) : Exit → Act → World → Prop
  | .normal, a, w => Q .normal a w
  | _, _, _ => False
def noDeferB (ops : Array Oper) : Bool := ops.toList.all fun o => match o.op with
  | .defer _ => false
  | _ => true
theorem noDeferB_spec {ops : Array Oper} (h : noDeferB ops = true) {j : Nat} {o : Oper} (ho : ops[j]? = some o) : ∀ c, o.op ≠ .defer c := fun c e => by
  unfold noDeferB at h
  have := List.all_eq_true.1 h o (by rw [← Array.mem_def]; exact Array.mem_of_getElem? ho)
  rw [e] at this
  cases this
theorem rowsIn_round {l n : Nat} {P : Program} {row : String} {args : Array Value} {w : World} {R : Value → World → Prop} (h : Rows P row args w R) : RowsIn (Fence.wide.inRound l) n P row args w R :=
  fun c cs _ => let ⟨v, w', r, s⟩ := h c cs; ⟨v, w', r, stepsIn_wide.2 s⟩
theorem Oper.wpIn_round {l n : Nat} {P : Program} {o : Oper} {a : Act} {w : World} {K : Act → World → Prop} {Q : Exit → Act → World → Prop} (hd : ∀ c, o.op ≠ .defer c) (h : o.wp P a w K (nrmQ Q)) : o.wpIn (Fence.wide.inRound l) n P a w K Q := by
  unfold Oper.wpIn
  refine ⟨fun _ _ => trivial, ?_⟩
  rw [Oper.semAt_plain _ _ _ hd]
  unfold Oper.wp at h
  generalize (execOp a.eval o).run P w = r at *
  cases r with
  | ok x w' =>
    cases x <;> simp only [Oper.upon, Oper.uponIn] at h ⊢
    case value v => exact h
    case skip => exact h
    case defer d => exact h
    case enter f args =>
      refine ⟨(fun hh => by cases hh), CallsIn.inRound l (callsIn_wide.2 (h.mono fun e w'' he => ?_))⟩
      cases e with
      | returned v => exact he
      | panicked c => exact he.elim
      | outgrown =>
        obtain ⟨a', w3, h3⟩ := he
        exact h3.elim
    case row row args => exact ⟨(fun hh => by cases hh), rowsIn_round h⟩
  | halt x w' => cases x <;> simp only [Oper.upon, Oper.uponIn] at h ⊢ <;> exact h.elim
theorem wpAnyIn_round {l n : Nat} {P : Program} {md : Region.Mode} {ops : Array Oper} {Q : Exit → Act → World → Prop} (hd : noDeferB ops = true) : ∀ (fuel : Nat) (listed : Array Bool) (a : Act) (w : World), wpAny P md ops (nrmQ Q) fuel listed a w → wpAnyIn (Fence.wide.inRound l) n P md ops Q fuel listed a w
  | 0, _, _, _, h => h
  | fuel + 1, listed, a, w, h => ⟨h.1, fun i hi => by
    have h2 := h.2 i hi
    unfold wpOp at h2
    unfold wpOpIn
    split
    · rename_i e
      simp only [e] at h2
      exact wpAnyIn_round hd fuel _ _ _ h2
    · rename_i o e
      simp only [e] at h2
      split
      · rename_i hw
        rw [if_pos hw] at h2
        rcases h2 with h2 | ⟨_, a', w', h2⟩
        · exact Oper.wpIn_round (noDeferB_spec hd e) (Oper.wp_mono (fun a' w' h' => wpAnyIn_round hd fuel _ a' w' h') h2)
        · exact h2.elim
      · rename_i hw
        rw [if_neg hw] at h2
        exact ⟨fun _ _ => trivial, wpAnyIn_round hd fuel _ _ _ h2⟩⟩
theorem wpIn_region_round {l n id : Nat} {P : Program} {ops : Array Oper} {Q : Exit → Act → World → Prop} {a : Act} {w : World} (hm : P.follows .mixedOrders = true) (hd : noDeferB ops = true) (h : wpAny P .any ops (nrmQ Q) ops.size (Array.replicate ops.size false) a { w with drawn := w.drawn + 1 }) : (Code.region id ops true).wpIn (Fence.wide.inRound l) n P Q a w :=
  wpIn_region_any hm (wpAnyIn_round hd _ _ _ _ h)
open Go.RowKit in
/-- an append within a fence: where the longer row lies -/
theorem wpListIn_append_lies {F : Fence} {n : Nat} {P : Program} (w : World) {ops : Array Oper} {rest : List Oper} {o : Oper} {a : Act} {Q : Exit → Act → World → Prop}
    (hg : o.guard = none) (s x : Operand) (t : TypeId) (hop : o.op = Op.call { callee := Callee.builtin Builtin.append, args := #[s, x], argTypes := #[t, t] })
    (base : Nat) (e : TypeId) (i : TypeInfo) (z : Value) (size bytes : Nat) (h1 : P.underlying t = some (.slice e)) (h2 : P.info? e = some i) (h3 : i.zero = some z) (h4 : i.size = size) (h5 : i.bytes = bytes) (h6 : z.cells.size = size) (h7 : 0 < size)
    (v : Value) (k : Nat) (xs : List Value) (hs : a.eval s = v) (hown : w.ownsRow base e size v k xs) (ad : Addr) (m c : Nat) (news : List Value) (hx : a.eval x = .slice (some ad) m c) (hn : news.length = m * size)
    (hc : ∀ j u, news[j]? = some u → w.cell? (ad.add j) = some u) (h1c : ∀ u ∈ news, u.oneCell' = true) (hm : 0 < m) (b1 : k + m ≤ maxLen) (b2 : (k + m) * bytes ≤ 140737488355328) (b3 : base ≤ w.heap.size)
    (hK : ∀ g cap w', w'.ownsRow base e size (.slice (some ⟨g, 0, none⟩) (k + m) cap) (k + m) (xs ++ news) → w.grownBy w' v.ownBlock → (v.ownBlock = some g ∨ g = w.heap.size) → g < w'.heap.size → wpListIn F n P ops Q rest (a.put o.dst (.slice (some ⟨g, 0, none⟩) (k + m) cap)) w') :
    wpListIn F n P ops Q (o :: rest) a w := by
  refine wpListIn_plain hg fun K hK' => ?_
  obtain ⟨g, cap, w', hrun, r1, r2, r3, r4⟩ := run_append_lies (P := P) w t o.type base e i z size bytes h1 h2 h3 h4 h5 h6 h7 v k xs hown ad m c news hn hc h1c hm b1 b2 b3 _ rfl
  unfold Oper.wpIn
  refine ⟨?_, ?_⟩
  · simp [Oper.about, hop, resolve, Target.leads, Sem.run_pure]
  · rw [Oper.semAt_plain F _ _ (by rw [hop]; intro c hc'; cases hc')]
    simp [execOp, hop, resolve, invoke, builtin, hs, hx, hrun, Result.andThen]
    exact hK' _ _ (hK g cap w' r1 r2 r3 r4)
end Go
