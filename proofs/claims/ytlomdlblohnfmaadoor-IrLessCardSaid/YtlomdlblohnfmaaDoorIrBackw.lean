/- slices.Backward at functions and at globals, whatever a round does that keeps all cells. -/
import Derived.RangeFuncNested
import Derived.RangeFuncBound
import Derived.RangeFuncCalls
import Derived.RangeFuncLeaves
import Derived.RangeFuncFrom
import Derived.Shelf.Abstract
import Derived.WalkKit
import Derived.OwnWalkIn
import Derived.TacticsInMore
import Derived.LoopNIn
import Derived.LoopIn
import Derived.Test.YtlomdlblohnfmaaDoorIrMem
namespace Go.Proofs.YtlomdlblohnfmaaDoor
open Go.RowKit Go.Shelf

attribute [local go_sem] Oper.semAt_some

/-- what a round keeps: whatever is cells -/
structure KeepC (W W' : World) : Prop where
  os : W'.os = W.os
  tape : W'.tape = W.tape
  output : W'.output = W.output
  size : W.heap.size ≤ W'.heap.size
  block : ∀ (k : Nat) (o : Obj), W.heap[k]? = some o → o.isCells = true → W'.heap[k]? = some o
theorem KeepC.refl (W : World) : KeepC W W := ⟨rfl, rfl, rfl, Nat.le_refl _, fun _ _ h _ => h⟩
theorem KeepC.trans {A B C : World} (h : KeepC A B) (k : KeepC B C) : KeepC A C :=
  ⟨k.os.trans h.os, k.tape.trans h.tape, k.output.trans h.output, Nat.le_trans h.size k.size, fun i o ho hc => k.block i o (h.block i o ho hc) hc⟩
theorem keepC_t {A B C : World} (h : KeepC A B) (k : KeepC B C) : KeepC A C := h.trans k
theorem KeepC.of_below {W W' : World} (h : Below W.heap.size W W') : KeepC W W' :=
  ⟨h.os, h.tape, h.output, h.size, fun k _ ho _ => (h.block k (lt_of_heap ho)).trans ho⟩
theorem KeepC.cell {W W' : World} (h : KeepC W W') {p : Addr} {v : Value} (hc : W.cell? p = some v) : W'.cell? p = some v := by
  unfold World.cell? at hc ⊢
  split at hc
  · rename_i cs T fz hb
    rw [h.block _ _ hb rfl]
    exact hc
  · cases hc
theorem KeepC.sl {α : Type} {kk : Nat} {cells : α → List Value} {B : Nat} {W W' : World} (h : KeepC W W') {a : Option Addr} {L : List α} (hs : IsSl kk cells B W a L) : IsSl kk cells B W' a L := fun hn => by
  obtain ⟨b, off, ha, hlt, hc⟩ := hs hn
  exact ⟨b, off, ha, hlt, fun i x hx j u hu => h.cell (hc i x hx j u hu)⟩
theorem keepC_b {w : World} (W : World) (l : Nat) (o o' : Obj) (_ : w.heap.size ≤ l) (h : W.heap[l]? = some o) (hc : o.isCells = false) (_ : o.isWalk = false) : KeepC W (W.putObj l o') :=
  ⟨rfl, rfl, rfl, (grownBy_putObj' W l o').size, fun k o2 hk hc2 => by
    have hne : k ≠ l := fun e => by subst e; rw [h] at hk; cases hk; rw [hc] at hc2; cases hc2
    rw [(grownBy_putObj' W l o').block k (lt_of_heap hk) (fun e => hne (by simpa using e))]
    exact hk⟩
/-- the elements with their places, from the last one on -/
def backL {α : Type} (Q : List α) : List (α × Nat) := Q.zipIdx.reverse
theorem backL_len {α : Type} (Q : List α) : (backL Q).length = Q.length := by simp [backL]
theorem backL_at {α : Type} {Q : List α} {m : Nat} (h : m < Q.length) : (backL Q)[Q.length - (m + 1)]? = some (Q[m], m) := by
  unfold backL
  rw [List.getElem?_reverse (by simp; omega), List.length_zipIdx, show Q.length - 1 - (Q.length - (m + 1)) = m by omega, List.getElem?_zipIdx, List.getElem?_eq_getElem h]
  simp
theorem backL_mem {α : Type} {Q : List α} {m : Nat} (h : m < Q.length) : (Q[m], m) ∈ backL Q := List.mem_of_getElem? (backL_at h)
theorem backL_of {α : Type} {Q : List α} {x : α × Nat} (h : x ∈ backL Q) : ∃ hm : x.2 < Q.length, x.1 = Q[x.2] := by
  unfold backL at h
  rw [List.mem_reverse, List.mem_iff_getElem?] at h
  obtain ⟨i, hi⟩ := h
  rw [List.getElem?_zipIdx] at hi
  cases hq : Q[i]? with
  | none => rw [hq] at hi; cases hi
  | some y =>
    rw [hq] at hi
    obtain ⟨hl, rfl⟩ := List.getElem?_eq_some_iff.1 hq
    simp at hi
    subst hi
    exact ⟨hl, rfl⟩
/-- an element with its place -/
abbrev El {α : Type} (Q : List α) : Type := { x : α × Nat // x ∈ backL Q }
theorem backL_next {α : Type} {Q : List α} {m : Nat} (h : m < Q.length) : (backL Q).take (Q.length - m) = (backL Q).take (Q.length - (m + 1)) ++ [(Q[m], m)] := by
  have h1 := backL_at h
  obtain ⟨hl, h2⟩ := List.getElem?_eq_some_iff.1 h1
  rw [show Q.length - m = Q.length - (m + 1) + 1 by omega, List.take_succ_eq_append_getElem hl, h2]

def SlVfn (q : IrF × Value × Value) : Prop := (∃ a n c, q.2.1 = .slice a n c) ∧ ∃ a n c, q.2.2 = .slice a n c
def fnCells (q : IrF × Value × Value) : List Value := [.string q.1.name, .int .i64 q.1.params, .int .i64 q.1.regs, q.2.1, q.2.2]
def fnE (x : (IrF × Value × Value) × Nat) : Array Value := #[.int .i64 (x.2 : Int), .agg #[.string x.1.1.name, .int .i64 x.1.1.params, .int .i64 x.1.1.regs, x.1.2.1, x.1.2.2]]
set_option maxRecDepth 100000 in
set_option maxHeartbeats 2000000 in
theorem back1_fn (n l Bs B : Nat) (a : Option Addr) (cap : Nat) (Q : List (IrF × Value × Value)) (hz : Q.length * 80 ≤ 140737488351232) (J Jx : List (El Q) → World → Prop)
    (hY : ∀ m pre (x : El Q) W, J pre W → pre.length < Q.length → YieldAt Fence.wide m Tryd.prog l (fnE x.1) W fun e W' =>
      (e = .returned (.bool true) ∧ J (pre ++ [x]) W' ∧ KeepC W W') ∨ (e = .returned (.bool false) ∧ Jx (pre ++ [x]) W'))
    (W : World) (hBs : W.cell? ⟨Bs, 0, none⟩ = some (.slice a Q.length cap)) (hs : IsSl 5 fnCells B W a Q) (hsh : ∀ x ∈ Q, SlVfn x) (h0 : J [] W) :
    CallsIn Fence.wide n Tryd.prog 37 #[.func (.yield l) #[] #[], .pointer (some ⟨Bs, 0, none⟩)] W fun e W' => (∃ v, e = .returned v) ∧
      ((∃ ys : List (El Q), ys.map Subtype.val = backL Q ∧ J ys W') ∨ (∃ pre : List (El Q), pre.map Subtype.val <+: backL Q ∧ Jx pre W')) := by
  have hdd : ∀ k : Nat, (Fence.wide.depth.isSome = true → 1 ≤ k) := fun k h => by cases h
  have HS := Lib.hid hs
  have HSh := Lib.hid hsh
  have HBs := Lib.hid hBs
  have hl : (Q.length : Int) ≤ 140737488351232 := by omega
  clear hs hsh
  refine callsIn_of_wp Tryd.func37 rfl trivial ?_ rfl
  simp only [Tryd.ntmps37, List.size_toArray, List.length_cons, List.length_nil, Nat.reduceAdd, Nat.reduceSub, Array.replicate_succ, Array.replicate_zero, List.push_toArray, List.append_toArray, List.nil_append, List.cons_append]
  gi_wp2
  gi_loopw [3] (fun i wr => ∃ m : Nat, m ≤ Q.length ∧ i = .int .i64 ((m : Int) - 1) ∧ (∃ pre : List (El Q), pre.map Subtype.val = (backL Q).take (Q.length - m) ∧ J pre wr) ∧ KeepC W wr)
    (fun i _ => (intOf i + 1).toNat)
  case atStart => exact ⟨Q.length, Nat.le_refl _, rfl, ⟨[], by simp, h0⟩, KeepC.refl _⟩
  case round =>
    obtain ⟨m, hm, rfl, ⟨pre, hpre, hJ⟩, hnx⟩ := hrel
    have hnx0 := hnx
    cases m with
    | zero =>
      gi_wp2
      go_end0
      exact ⟨⟨_, rfl⟩, .inl ⟨pre, by rw [hpre, Nat.sub_zero, List.take_of_length_le (by rw [backL_len]; exact Nat.le_refl _)], hJ⟩⟩
    | succ m =>
      have hmq : m < Q.length := by omega
      have c0 := KeepC.cell hnx HBs.out
      obtain ⟨b, off, e, hbl, hrow⟩ := (KeepC.sl hnx HS.out) (fun e => by rw [e] at hmq; simp at hmq)
      subst e
      have e0 := hrow m _ (List.getElem?_eq_getElem hmq) 0 _ rfl
      have e1 := hrow m _ (List.getElem?_eq_getElem hmq) 1 _ rfl
      have e2 := hrow m _ (List.getElem?_eq_getElem hmq) 2 _ rfl
      have e3 := hrow m _ (List.getElem?_eq_getElem hmq) 3 _ rfl
      have e4 := hrow m _ (List.getElem?_eq_getElem hmq) 4 _ rfl
      simp only [Nat.add_zero] at e0
      have hsv := HSh.out _ (List.getElem_mem hmq)
      have HNx := Lib.hid (backL_next hmq)
      obtain ⟨fn, tmps, assign, body, hy, hR⟩ := hY (n - 1) pre ⟨(Q[m], m), backL_mem hmq⟩ wr hJ (by have := congrArg List.length hpre; rw [List.length_map, List.length_take, backL_len] at this; omega)
      have HPre := Lib.hid (show (pre ++ [(⟨(Q[m], m), backL_mem hmq⟩ : El Q)]).map Subtype.val = (backL Q).take (Q.length - m) by rw [List.map_append, hpre, backL_next hmq]; rfl)
      obtain ⟨pre2, hpre2⟩ : ∃ p, p = pre ++ [(⟨(Q[m], m), backL_mem hmq⟩ : El Q)] := ⟨_, rfl⟩
      rw [← hpre2] at HPre hR
      clear hpre2
      clear hrow hnx
      have HNn := Lib.hid hnx0
      unfold fnE at hy
      dsimp only at hy
      generalize Q[m]'hmq = x at *
      obtain ⟨f, v1, v2⟩ := x
      obtain ⟨⟨a1, n1, cc1, h1⟩, ⟨a2, n2, cc2, h2⟩⟩ := hsv
      dsimp only at h1 h2
      subst h1 h2
      have e8 : ((m + 1 : Nat) : Int) - 1 = (m : Int) := by omega
      rw [e8]
      have hm2 : (m : Int) < (Q.length : Int) := by omega
      gi_wp2
      refine ⟨hdd _, hR.mono ?_⟩
      rintro e W3 (⟨rfl, hJ3, hk3⟩ | ⟨rfl, hJx3⟩)
      · gi_wp2
        go_roundw
        case rel => exact ⟨m, by omega, rfl, ⟨pre2, HPre.out, hJ3⟩, HNn.out.trans hk3⟩
        case measure => simp [intOf]
      · gi_wp2
        refine bodyPost_ret (results_none rfl _ _ _) rfl ?_
        exact ⟨⟨_, rfl⟩, .inr ⟨pre2, by rw [HPre.out]; exact List.take_prefix _ _, hJx3⟩⟩
def SlVgl (q : ByteArray × Value × Int × Value) : Prop := (∃ a n c, q.2.1 = .slice a n c) ∧ ∃ a n c, q.2.2.2 = .slice a n c
def glbCells (q : ByteArray × Value × Int × Value) : List Value := [.string q.1, q.2.1, .int .i64 q.2.2.1, q.2.2.2]
def glE (x : (ByteArray × Value × Int × Value) × Nat) : Array Value := #[.int .i64 (x.2 : Int), .agg #[.string x.1.1, x.1.2.1, .int .i64 x.1.2.2.1, x.1.2.2.2]]
set_option maxRecDepth 100000 in
set_option maxHeartbeats 2000000 in
theorem back1_gl (n l Bs B : Nat) (a : Option Addr) (cap : Nat) (Q : List (ByteArray × Value × Int × Value)) (hz : Q.length * 72 ≤ 140737488351232) (J Jx : List (El Q) → World → Prop)
    (hY : ∀ m pre (x : El Q) W, J pre W → pre.length < Q.length → YieldAt Fence.wide m Tryd.prog l (glE x.1) W fun e W' =>
      (e = .returned (.bool true) ∧ J (pre ++ [x]) W' ∧ KeepC W W') ∨ (e = .returned (.bool false) ∧ Jx (pre ++ [x]) W'))
    (W : World) (hBs : W.cell? ⟨Bs, 0, none⟩ = some (.slice a Q.length cap)) (hs : IsSl 4 glbCells B W a Q) (hsh : ∀ x ∈ Q, SlVgl x) (h0 : J [] W) :
    CallsIn Fence.wide n Tryd.prog 36 #[.func (.yield l) #[] #[], .pointer (some ⟨Bs, 0, none⟩)] W fun e W' => (∃ v, e = .returned v) ∧
      ((∃ ys : List (El Q), ys.map Subtype.val = backL Q ∧ J ys W') ∨ (∃ pre : List (El Q), pre.map Subtype.val <+: backL Q ∧ Jx pre W')) := by
  have hdd : ∀ k : Nat, (Fence.wide.depth.isSome = true → 1 ≤ k) := fun k h => by cases h
  have HS := Lib.hid hs
  have HSh := Lib.hid hsh
  have HBs := Lib.hid hBs
  have hl : (Q.length : Int) ≤ 140737488351232 := by omega
  clear hs hsh
  refine callsIn_of_wp Tryd.func36 rfl trivial ?_ rfl
  simp only [Tryd.ntmps36, List.size_toArray, List.length_cons, List.length_nil, Nat.reduceAdd, Nat.reduceSub, Array.replicate_succ, Array.replicate_zero, List.push_toArray, List.append_toArray, List.nil_append, List.cons_append]
  gi_wp2
  gi_loopw [3] (fun i wr => ∃ m : Nat, m ≤ Q.length ∧ i = .int .i64 ((m : Int) - 1) ∧ (∃ pre : List (El Q), pre.map Subtype.val = (backL Q).take (Q.length - m) ∧ J pre wr) ∧ KeepC W wr)
    (fun i _ => (intOf i + 1).toNat)
  case atStart => exact ⟨Q.length, Nat.le_refl _, rfl, ⟨[], by simp, h0⟩, KeepC.refl _⟩
  case round =>
    obtain ⟨m, hm, rfl, ⟨pre, hpre, hJ⟩, hnx⟩ := hrel
    have hnx0 := hnx
    cases m with
    | zero =>
      gi_wp2
      go_end0
      exact ⟨⟨_, rfl⟩, .inl ⟨pre, by rw [hpre, Nat.sub_zero, List.take_of_length_le (by rw [backL_len]; exact Nat.le_refl _)], hJ⟩⟩
    | succ m =>
      have hmq : m < Q.length := by omega
      have c0 := KeepC.cell hnx HBs.out
      obtain ⟨b, off, e, hbl, hrow⟩ := (KeepC.sl hnx HS.out) (fun e => by rw [e] at hmq; simp at hmq)
      subst e
      have e0 := hrow m _ (List.getElem?_eq_getElem hmq) 0 _ rfl
      have e1 := hrow m _ (List.getElem?_eq_getElem hmq) 1 _ rfl
      have e2 := hrow m _ (List.getElem?_eq_getElem hmq) 2 _ rfl
      have e3 := hrow m _ (List.getElem?_eq_getElem hmq) 3 _ rfl
      simp only [Nat.add_zero] at e0
      have hsv := HSh.out _ (List.getElem_mem hmq)
      have HNx := Lib.hid (backL_next hmq)
      obtain ⟨fn, tmps, assign, body, hy, hR⟩ := hY (n - 1) pre ⟨(Q[m], m), backL_mem hmq⟩ wr hJ (by have := congrArg List.length hpre; rw [List.length_map, List.length_take, backL_len] at this; omega)
      have HPre := Lib.hid (show (pre ++ [(⟨(Q[m], m), backL_mem hmq⟩ : El Q)]).map Subtype.val = (backL Q).take (Q.length - m) by rw [List.map_append, hpre, backL_next hmq]; rfl)
      obtain ⟨pre2, hpre2⟩ : ∃ p, p = pre ++ [(⟨(Q[m], m), backL_mem hmq⟩ : El Q)] := ⟨_, rfl⟩
      rw [← hpre2] at HPre hR
      clear hpre2
      clear hrow hnx
      have HNn := Lib.hid hnx0
      unfold glE at hy
      dsimp only at hy
      generalize Q[m]'hmq = x at *
      obtain ⟨f, v1, al, v2⟩ := x
      obtain ⟨⟨a1, n1, cc1, h1⟩, ⟨a2, n2, cc2, h2⟩⟩ := hsv
      dsimp only at h1 h2
      subst h1 h2
      have e8 : ((m + 1 : Nat) : Int) - 1 = (m : Int) := by omega
      rw [e8]
      have hm2 : (m : Int) < (Q.length : Int) := by omega
      gi_wp2
      refine ⟨hdd _, hR.mono ?_⟩
      rintro e W3 (⟨rfl, hJ3, hk3⟩ | ⟨rfl, hJx3⟩)
      · gi_wp2
        go_roundw
        case rel => exact ⟨m, by omega, rfl, ⟨pre2, HPre.out, hJ3⟩, HNn.out.trans hk3⟩
        case measure => simp [intOf]
      · gi_wp2
        refine bodyPost_ret (results_none rfl _ _ _) rfl ?_
        exact ⟨⟨_, rfl⟩, .inr ⟨pre2, by rw [HPre.out]; exact List.take_prefix _ _, hJx3⟩⟩
set_option maxHeartbeats 1000000 in
/-- slices.Backward: the slice is boxed; the function value holds the box -/
theorem back_fn (n : Nat) (a : Option Addr) (len cap : Nat) (w : World) :
    CallsIn Fence.wide n Tryd.prog 19 #[.slice a len cap] w fun e w' => e = .returned (.func (.func 37) #[] #[.pointer (some ⟨w.heap.size, 0, none⟩)]) ∧ w' = w.alloc (.cells #[.slice a len cap] 24) := by
  refine callsIn_of_wp Tryd.func19 rfl trivial ?_ rfl
  simp only [Tryd.ntmps19, List.size_toArray, List.length_cons, List.length_nil, Nat.reduceAdd, Nat.reduceSub, Array.replicate_succ, Array.replicate_zero, List.push_toArray, List.append_toArray, List.nil_append, List.cons_append]
  gi_wp2
  go_ret
  exact ⟨rfl, rfl⟩
theorem backStops_fn (n Bs B : Nat) (a : Option Addr) (cap : Nat) (Q : List (IrF × Value × Value)) (hz : Q.length * 80 ≤ 140737488351232) (w : World) (hBs : w.cell? ⟨Bs, 0, none⟩ = some (.slice a Q.length cap)) (hs : IsSl 5 fnCells B w a Q) (hsh : ∀ x ∈ Q, SlVfn x) :
    SeqStopsK Fence.wide n Tryd.prog 37 #[.pointer (some ⟨Bs, 0, none⟩)] (fun x : El Q => fnE x.1) KeepC (fun ys => ys.map Subtype.val = backL Q) (fun pre => pre.map Subtype.val <+: backL Q) Q.length w := fun l J Jx W hW _ _ hY h0 =>
  back1_fn n l Bs B a cap Q hz J Jx (fun m pre x W1 hj hl => by
      obtain ⟨fn, tmps, assign, body, hy, hR⟩ := hY pre x W1 hj hl
      exact ⟨fn, tmps, assign, body, hy, hR.1, fun c cs _ => hR.2 c cs (room_wide _)⟩) W
    ((KeepC.of_below hW).cell hBs) ((KeepC.of_below hW).sl hs) hsh h0
set_option maxHeartbeats 1000000 in
/-- slices.Backward: the slice is boxed; the function value holds the box -/
theorem back_gl (n : Nat) (a : Option Addr) (len cap : Nat) (w : World) :
    CallsIn Fence.wide n Tryd.prog 18 #[.slice a len cap] w fun e w' => e = .returned (.func (.func 36) #[] #[.pointer (some ⟨w.heap.size, 0, none⟩)]) ∧ w' = w.alloc (.cells #[.slice a len cap] 22) := by
  refine callsIn_of_wp Tryd.func18 rfl trivial ?_ rfl
  simp only [Tryd.ntmps18, List.size_toArray, List.length_cons, List.length_nil, Nat.reduceAdd, Nat.reduceSub, Array.replicate_succ, Array.replicate_zero, List.push_toArray, List.append_toArray, List.nil_append, List.cons_append]
  gi_wp2
  go_ret
  exact ⟨rfl, rfl⟩
theorem backStops_gl (n Bs B : Nat) (a : Option Addr) (cap : Nat) (Q : List (ByteArray × Value × Int × Value)) (hz : Q.length * 72 ≤ 140737488351232) (w : World) (hBs : w.cell? ⟨Bs, 0, none⟩ = some (.slice a Q.length cap)) (hs : IsSl 4 glbCells B w a Q) (hsh : ∀ x ∈ Q, SlVgl x) :
    SeqStopsK Fence.wide n Tryd.prog 36 #[.pointer (some ⟨Bs, 0, none⟩)] (fun x : El Q => glE x.1) KeepC (fun ys => ys.map Subtype.val = backL Q) (fun pre => pre.map Subtype.val <+: backL Q) Q.length w := fun l J Jx W hW _ _ hY h0 =>
  back1_gl n l Bs B a cap Q hz J Jx (fun m pre x W1 hj hl => by
      obtain ⟨fn, tmps, assign, body, hy, hR⟩ := hY pre x W1 hj hl
      exact ⟨fn, tmps, assign, body, hy, hR.1, fun c cs _ => hR.2 c cs (room_wide _)⟩) W
    ((KeepC.of_below hW).cell hBs) ((KeepC.of_below hW).sl hs) hsh h0
end Go.Proofs.YtlomdlblohnfmaaDoor

