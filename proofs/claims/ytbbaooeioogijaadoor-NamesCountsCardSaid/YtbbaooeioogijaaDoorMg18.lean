/- An argument that is a unit, opened. · The rows' last step, alike for all laws: the arguments read as before in any world that keeps what lay below; what the bound on the bulk gives. · What is wrong with a unit. Plain: nothing of the program. -/
import Derived.Test.YtbbaooeioogijaaDoorMg17
import Derived.SizedLaws
import Derived.Test.YtbbaooeioogijaaDoorRows
import Derived.Test.YtbbaooeioogijaaDoorMg1
import Derived.ProofKit
import Derived.OpenShut
import Derived.JoinedCond
namespace Go.Proofs.YtbbaooeioogijaaDoor
open Go.ChangeShapes Go.WideShapes Go.ChangeAt Go.RowKit Go.Deep

section
variable {H : Type} {enc : TypeId × Value → H} {w : World} {base : Nat} {spare : Nat → Bool} {held : Bool}
/-- what a reading weighs -/
def Wt (t : TypeId) (d : DataW H) : Prop := ∀ n ∈ d.weights Tryd.prog t, n ≤ 140737488351232
theorem wt_sl {t e : TypeId} {k : Nat} {l rest : List (DataW H)} (ht : Tryd.prog.underlying t = some (.slice e)) (hk : Tryd.prog.bytesOf e = k) (h : Wt t (.slice l rest)) : l.length * k ≤ 140737488351232 ∧ ∀ d ∈ l, Wt e d := by
  unfold Wt at h
  rw [DataW.weights, ht] at h
  have h0 := h _ List.mem_cons_self
  rw [hk] at h0
  have h1 : l.length * k ≤ (l.length + rest.length) * k := Nat.mul_le_mul_right k (Nat.le_add_right _ _)
  exact ⟨by omega, fun d hd n hn => h n (List.mem_cons_of_mem _ (List.mem_append_left _ (weightsAll_mem hd hn)))⟩
theorem wt_st {t : TypeId} {fs : Array Field} {l : List (DataW H)} (ht : Tryd.prog.underlying t = some (.struct fs)) (h : Wt t (.agg l)) (j : Nat) (f : Field) (d : DataW H) (hf : fs[j]? = some f) (hd : l[j]? = some d) : Wt f.type d := fun n hn => by
  unfold Wt at h
  rw [DataW.weights, ht] at h
  refine h n (DataW.weights_mem_each (j := j) (t := f.type) (d := d) ?_ hd n hn)
  rw [List.getElem?_map, Array.getElem?_toList, hf]
  rfl
theorem cellsVrU : Tryd.prog.cellsOf 46 = 3 := by kernel_rfl
theorem cellsVrsU : Tryd.prog.cellsOf 40 = 1 := by kernel_rfl
theorem cellsTrU : Tryd.prog.cellsOf 42 = 1 := by kernel_rfl
theorem cellsTrsU : Tryd.prog.cellsOf 64 = 1 := by kernel_rfl
theorem cellsGlU : Tryd.prog.cellsOf 66 = 5 := by kernel_rfl
theorem cellsGlsU : Tryd.prog.cellsOf 23 = 1 := by kernel_rfl
theorem cellsFnU : Tryd.prog.cellsOf 44 = 5 := by kernel_rfl
theorem cellsFnsU : Tryd.prog.cellsOf 24 = 1 := by kernel_rfl
theorem cellsStsU : Tryd.prog.cellsOf 22 = 1 := by kernel_rfl
theorem cellsUnU : Tryd.prog.cellsOf 26 = 3 := by kernel_rfl
theorem cellsInU : Tryd.prog.cellsOf 3 = 1 := by kernel_rfl
theorem cellsSnU : Tryd.prog.cellsOf 9 = 1 := by kernel_rfl
theorem cellsTyU : Tryd.prog.cellsOf 39 = 1 := by kernel_rfl
theorem cellsBoU : Tryd.prog.cellsOf 4 = 1 := by kernel_rfl
theorem slMapU {α β : Type} {k : Nat} {c1 : α → List Value} {c2 : β → List Value} (g : α → β) (he : ∀ x, c2 (g x) = c1 x) {B : Nat} {w : World} {a : Option Addr} {Q : List α} (h : IsSl k c1 B w a Q) : IsSl k c2 B w a (Q.map g) := fun hn => by
  obtain ⟨b, off, e, hlt, hc⟩ := h (fun e => hn (by rw [e]; rfl))
  refine ⟨b, off, e, hlt, fun i t ht j u hu => ?_⟩
  rw [List.getElem?_map, Option.map_eq_some_iff] at ht
  obtain ⟨q, hq, rfl⟩ := ht
  rw [he] at hu
  exact hc i q hq j u hu
/-- what a slice of things of k bytes each weighs -/
theorem wt_len {α : Type} {t e : TypeId} {k : Nat} {x : DataW H} {L : List α} {data : α → DataW H} (ht : Tryd.prog.underlying t = some (.slice e)) (hk : Tryd.prog.bytesOf e = k) (hd : (x = .nil ∧ L = []) ∨ ∃ rest, x = .slice (L.map data) rest) (h : Wt t x) : L.length * k ≤ 140737488351232 ∧ ∀ q ∈ L, Wt e (data q) := by
  rcases hd with ⟨_, rfl⟩ | ⟨rest, rfl⟩
  · exact ⟨by simp, fun q hq => by cases hq⟩
  · obtain ⟨h1, h2⟩ := wt_sl ht hk h
    rw [List.length_map] at h1
    exact ⟨h1, fun q hq => h2 _ (List.mem_map_of_mem hq)⟩
set_option maxRecDepth 100000 in
theorem open_vrU {n : Nat} {cs : List Value} {D : DataW H} {pl : List MemPlace} (h : DataW.trod enc Tryd.prog w base spare held n 46 cs = some (D, pl)) :
    ∃ q : VrU × DataW H, cs = vrCells q.1 ∧ D = q.2 ∧ VrOk q.1 := by
  obtain ⟨xs, n', _, hx, hlen, hxs, hf⟩ := DataW.trod_struct Tryd.underlying46 h
  rw [cellsVrU] at hlen
  match cs, hlen with
  | [c0, c1, c2], _ =>
    match xs, hxs with
    | [y0, y1, y2], _ =>
      have f0 := hf 0 _ rfl
      have f1 := hf 1 _ rfl
      have f2 := hf 2 _ rfl
      simp [cellsSnU] at f0
      simp [cellsTyU] at f1
      simp [cellsBoU] at f2
      obtain ⟨a0, e0, r0, w0⟩ := DataW.trod_string Tryd.underlying9 f0
      obtain ⟨a1, e1, r1, w1⟩ := DataW.trod_string Tryd.underlying39 f1
      obtain ⟨a2, e2, r2⟩ := DataW.trod_bool Tryd.underlying4 f2
      simp only [List.cons.injEq, and_true] at e0 e1 e2
      subst e0 e1 e2
      exact ⟨(⟨a0, a1, a2⟩, D), rfl, rfl, w0, w1⟩
theorem open_vrsU {fuel : Nat} {v : Value} {x : DataW H × List MemPlace} (h : DataW.trod enc Tryd.prog w base spare held fuel 40 [v] = some x) :
    ∃ L : List VrU, Wt 40 x.1 → IsVrs w.heap.size w v L := by
  obtain ⟨a, cap, Q, hv, hl, hc, hn, hd, hs, hok⟩ := open_list (by decide) Tryd.underlying40 cellsVrU (fun q : VrU × DataW H => vrCells q.1) Prod.snd (fun q => VrOk q.1) (fun h => open_vrU h) h
  refine ⟨Q.map Prod.fst, fun hf => ?_⟩
  obtain ⟨hz, _⟩ := wt_len Tryd.underlying40 (show Tryd.prog.bytesOf 46 = 40 by kernel_rfl) hd hf
  refine ⟨a, cap, by rw [List.length_map]; exact hv, ⟨by rw [List.length_map]; exact hz, by rw [List.length_map]; exact hl, hc, fun e => ⟨by rw [(hn e).1]; rfl, (hn e).2⟩⟩, slMapU Prod.fst (fun _ => rfl) hs, fun y hy => ?_⟩
  obtain ⟨q, hq, rfl⟩ := List.mem_map.1 hy
  exact hok q hq
theorem open_trU {fuel : Nat} {v : Value} {x : DataW H × List MemPlace} (h : DataW.trod enc Tryd.prog w base spare held fuel 42 [v] = some x) :
    ∃ T : List Nd, Wt 42 x.1 → IsTr w.heap.size w v T := by
  obtain ⟨a, cap, Q, hv, hl, hc, hn, hd, hs, hok⟩ := open_tree h
  refine ⟨Q, fun hf => ?_⟩
  obtain ⟨hz, _⟩ := wt_len Tryd.underlying42 (show Tryd.prog.bytesOf 48 = 64 by kernel_rfl) hd hf
  exact ⟨a, cap, hv, ⟨hz, hl, hc, fun e => ⟨by rw [(hn e).1]; rfl, (hn e).2⟩⟩, hs, hok⟩
theorem open_trsU {fuel : Nat} {v : Value} {x : DataW H × List MemPlace} (h : DataW.trod enc Tryd.prog w base spare held fuel 64 [v] = some x) :
    ∃ L : List (List Nd), Wt 64 x.1 → IsTrs w.heap.size w v L := by
  obtain ⟨a, cap, Q, hv, hl, hc, hn, hd, hs, hok⟩ := open_list (by decide) Tryd.underlying64 cellsTrU (fun q : (List Nd × Value) × DataW H => trCells q.1) Prod.snd (fun q => Wt 42 q.2 → IsTr w.heap.size w q.1.2 q.1.1) (fun {n cs D pl} h => by
    obtain ⟨c0, rfl⟩ : ∃ c0, cs = [c0] := by
      rcases DataW.trod_slice Tryd.underlying42 h with ⟨e, _⟩ | ⟨a, len, cap, _, _, _, _, e, _⟩
      · exact ⟨_, e⟩
      · exact ⟨_, e⟩
    obtain ⟨T, hT⟩ := open_trU h
    exact ⟨((T, c0), D), rfl, rfl, hT⟩) h
  refine ⟨Q.map fun q => q.1.1, fun hf => ?_⟩
  obtain ⟨hz, hz2⟩ := wt_len Tryd.underlying64 (show Tryd.prog.bytesOf 42 = 24 by kernel_rfl) hd hf
  refine ⟨a, cap, Q.map Prod.fst, by rw [List.length_map]; exact hv, ⟨by rw [List.length_map]; exact hz, by rw [List.length_map]; exact hl, hc, fun e => ⟨by rw [(hn e).1]; rfl, (hn e).2⟩⟩, by rw [List.map_map]; rfl, slMapU Prod.fst (fun _ => rfl) hs, fun q hq => ?_⟩
  obtain ⟨q', hq', rfl⟩ := List.mem_map.1 hq
  exact hok q' hq' (hz2 q' hq')
def GlRdU (w : World) (q : (GlU × Value) × DataW H) : Prop := Wt 66 q.2 → IsGlU w.heap.size w q.1.1 q.1.2
set_option maxRecDepth 100000 in
theorem open_glU {n : Nat} {cs : List Value} {D : DataW H} {pl : List MemPlace} (h : DataW.trod enc Tryd.prog w base spare held n 66 cs = some (D, pl)) :
    ∃ q : (GlU × Value) × DataW H, cs = glUCells q.1 ∧ D = q.2 ∧ GlRdU w q := by
  obtain ⟨xs, n', _, hx, hlen, hxs, hf⟩ := DataW.trod_struct Tryd.underlying66 h
  rw [cellsGlU] at hlen
  match cs, hlen with
  | [c0, c1, c2, c3, c4], _ =>
    match xs, hxs with
    | [y0, y1, y2], _ =>
      have f0 := hf 0 _ rfl
      have f1 := hf 1 _ rfl
      have f2 := hf 2 _ rfl
      simp [cellsInU] at f0
      simp [cellsVrU] at f1
      simp [cellsTrsU] at f2
      obtain ⟨a0, e0, r0, w0⟩ := DataW.trod_int Tryd.underlying3 f0
      obtain ⟨q1, e1, _, hq1⟩ := open_vrU f1
      obtain ⟨L, hL⟩ := open_trsU f2
      simp only [vrCells, List.cons.injEq, and_true] at e0 e1
      obtain ⟨rfl, rfl, rfl⟩ := e1
      subst e0
      refine ⟨((⟨a0, q1.1, L⟩, c4), D), rfl, rfl, fun hft => ⟨hq1, bounds_i64 w0, ?_⟩⟩
      have hD := congrArg Prod.fst hx
      dsimp only at hD hft
      rw [hD] at hft
      exact hL (wt_st Tryd.underlying66 hft 2 _ _ rfl rfl)
theorem open_glsU {fuel : Nat} {v : Value} {x : DataW H × List MemPlace} (h : DataW.trod enc Tryd.prog w base spare held fuel 23 [v] = some x) :
    ∃ L : List GlU, Wt 23 x.1 → IsGlsU w.heap.size w v L := by
  obtain ⟨a, cap, Q, hv, hl, hc, hn, hd, hs, hok⟩ := open_list (by decide) Tryd.underlying23 cellsGlU (fun q : (GlU × Value) × DataW H => glUCells q.1) Prod.snd (GlRdU w) (fun h => open_glU h) h
  refine ⟨Q.map fun q => q.1.1, fun hf => ?_⟩
  obtain ⟨hz, hz2⟩ := wt_len Tryd.underlying23 (show Tryd.prog.bytesOf 66 = 72 by kernel_rfl) hd hf
  refine ⟨a, cap, Q.map Prod.fst, by rw [List.length_map]; exact hv, ⟨by rw [List.length_map]; exact hz, by rw [List.length_map]; exact hl, hc, fun e => ⟨by rw [(hn e).1]; rfl, (hn e).2⟩⟩, by rw [List.map_map]; rfl, slMapU Prod.fst (fun _ => rfl) hs, fun q hq => ?_⟩
  obtain ⟨q', hq', rfl⟩ := List.mem_map.1 hq
  exact hok q' hq' (hz2 q' hq')
def FnRdU (w : World) (q : (FnU × Value × Value) × DataW H) : Prop := Wt 44 q.2 → IsFnU w.heap.size w q.1.1 q.1.2.1 q.1.2.2
set_option maxRecDepth 100000 in
theorem open_fnU {n : Nat} {cs : List Value} {D : DataW H} {pl : List MemPlace} (h : DataW.trod enc Tryd.prog w base spare held n 44 cs = some (D, pl)) :
    ∃ q : (FnU × Value × Value) × DataW H, cs = fnUCells q.1 ∧ D = q.2 ∧ FnRdU w q := by
  obtain ⟨xs, n', _, hx, hlen, hxs, hf⟩ := DataW.trod_struct Tryd.underlying44 h
  rw [cellsFnU] at hlen
  match cs, hlen with
  | [c0, c1, c2, c3, c4], _ =>
    match xs, hxs with
    | [y0, y1, y2, y3, y4], _ =>
      have f0 := hf 0 _ rfl
      have f1 := hf 1 _ rfl
      have f2 := hf 2 _ rfl
      have f3 := hf 3 _ rfl
      have f4 := hf 4 _ rfl
      simp [cellsInU] at f0
      simp [cellsSnU] at f1
      simp [cellsTyU] at f2
      simp [cellsVrsU] at f3
      simp [cellsTrU] at f4
      obtain ⟨a0, e0, r0, w0⟩ := DataW.trod_int Tryd.underlying3 f0
      obtain ⟨a1, e1, r1, w1⟩ := DataW.trod_string Tryd.underlying9 f1
      obtain ⟨a2, e2, r2, w2⟩ := DataW.trod_string Tryd.underlying39 f2
      obtain ⟨L, hL⟩ := open_vrsU f3
      obtain ⟨T, hT⟩ := open_trU f4
      simp only [List.cons.injEq, and_true] at e0 e1 e2
      subst e0 e1 e2
      refine ⟨((⟨a0, a1, a2, L, T⟩, c3, c4), D), rfl, rfl, fun hft => ?_⟩
      have hD := congrArg Prod.fst hx
      dsimp only at hD hft
      rw [hD] at hft
      exact ⟨w1, w2, bounds_i64 w0, hL (wt_st Tryd.underlying44 hft 3 _ _ rfl rfl), hT (wt_st Tryd.underlying44 hft 4 _ _ rfl rfl)⟩
theorem open_fnsU {fuel : Nat} {v : Value} {x : DataW H × List MemPlace} (h : DataW.trod enc Tryd.prog w base spare held fuel 24 [v] = some x) :
    ∃ L : List FnU, Wt 24 x.1 → IsFnsU w.heap.size w v L := by
  obtain ⟨a, cap, Q, hv, hl, hc, hn, hd, hs, hok⟩ := open_list (by decide) Tryd.underlying24 cellsFnU (fun q : (FnU × Value × Value) × DataW H => fnUCells q.1) Prod.snd (FnRdU w) (fun h => open_fnU h) h
  refine ⟨Q.map fun q => q.1.1, fun hf => ?_⟩
  obtain ⟨hz, hz2⟩ := wt_len Tryd.underlying24 (show Tryd.prog.bytesOf 44 = 88 by kernel_rfl) hd hf
  refine ⟨a, cap, Q.map Prod.fst, by rw [List.length_map]; exact hv, ⟨by rw [List.length_map]; exact hz, by rw [List.length_map]; exact hl, hc, fun e => ⟨by rw [(hn e).1]; rfl, (hn e).2⟩⟩, by rw [List.map_map]; rfl, slMapU Prod.fst (fun _ => rfl) hs, fun q hq => ?_⟩
  obtain ⟨q', hq', rfl⟩ := List.mem_map.1 hq
  exact hok q' hq' (hz2 q' hq')
theorem open_stU {fuel : Nat} {v : Value} {x : DataW H × List MemPlace} (h : DataW.trod enc Tryd.prog w base spare held fuel 22 [v] = some x) :
    ∃ L : List Sr, Wt 22 x.1 → IsStU w.heap.size w v L := by
  obtain ⟨a, cap, Q, hv, hl, hc, hn, hd, hs, hok⟩ := open_srs h
  refine ⟨Q.map Prod.fst, fun hf => ?_⟩
  obtain ⟨hz, hz2⟩ := wt_len Tryd.underlying22 (show Tryd.prog.bytesOf 75 = 40 by kernel_rfl) hd hf
  refine ⟨a, cap, Q.map fun q => q.2.1, by rw [List.length_map]; exact hv, ⟨by rw [List.length_map]; exact hl, hc, by rw [List.length_map]; exact hz, fun y hy => ?_, fun u hu n c e => ?_, fun e => ⟨by rw [(hn e).1]; rfl, (hn e).2⟩⟩, hs⟩
  · obtain ⟨q, hq, rfl⟩ := List.mem_map.1 hy
    have h1 := wt_st Tryd.underlying75 (hz2 q hq) 1 _ _ rfl rfl
    exact (wt_len Tryd.underlying73 (show Tryd.prog.bytesOf 151 = 32 by kernel_rfl) (hok q hq).2.2.2.2 h1).1
  · obtain ⟨q, hq, rfl⟩ := List.mem_map.1 hu
    exact (hok q hq).2.2.2.1 c n e
set_option maxRecDepth 100000 in
theorem open_unU {n : Nat} {cs : List Value} {D : DataW H} {pl : List MemPlace} (h : DataW.trod enc Tryd.prog w base spare held n 26 cs = some (D, pl)) (hft : Wt 26 D) :
    ∃ (u : UnU) (vs vg vf : Value), cs = [vs, vg, vf] ∧ IsUn w.heap.size w u vs vg vf := by
  obtain ⟨xs, n', _, hx, hlen, hxs, hf⟩ := DataW.trod_struct Tryd.underlying26 h
  rw [cellsUnU] at hlen
  match cs, hlen with
  | [c0, c1, c2], _ =>
    match xs, hxs with
    | [y0, y1, y2], _ =>
      have f0 := hf 0 _ rfl
      have f1 := hf 1 _ rfl
      have f2 := hf 2 _ rfl
      simp [cellsStsU] at f0
      simp [cellsGlsU] at f1
      simp [cellsFnsU] at f2
      obtain ⟨L0, h0⟩ := open_stU f0
      obtain ⟨L1, h1⟩ := open_glsU f1
      obtain ⟨L2, h2⟩ := open_fnsU f2
      have hD := congrArg Prod.fst hx
      dsimp only at hD
      rw [hD] at hft
      exact ⟨⟨L0, L1, L2⟩, c0, c1, c2, rfl, h0 (wt_st Tryd.underlying26 hft 0 _ _ rfl rfl), h1 (wt_st Tryd.underlying26 hft 1 _ _ rfl rfl), h2 (wt_st Tryd.underlying26 hft 2 _ _ rfl rfl)⟩
/-- a unit as an argument -/
theorem open_unit {fuel : Nat} {cs : List Value} {x : DataW H × List MemPlace} {ts : List TypeId} {ds : List (DataW H)} (hw : (DataW.weightsEach Tryd.prog ts ds).all (· ≤ reachBytes) = true) {j : Nat} (ht : ts[j]? = some 26) (hD : ds[j]? = some x.1)
    (h : DataW.trod enc Tryd.prog w base spare held fuel 26 cs = some x) : ∃ (u : UnU) (vs vg vf : Value), cs = [vs, vg, vf] ∧ IsUn w.heap.size w u vs vg vf := by
  obtain ⟨D, pl⟩ := x
  refine open_unU h fun n hn => ?_
  have h1 := List.all_eq_true.1 hw n (DataW.weights_mem_each ht hD n hn)
  have hr : reachBytes = 140737488351232 := rfl
  rw [hr] at h1
  exact of_decide_eq_true h1
end
end Go.Proofs.YtbbaooeioogijaaDoor
namespace Go.Proofs.YtbbaooeioogijaaDoor
open Go.ChangeShapes Go.WideShapes Go.ChangeAt Go.RowKit

theorem laidOut : laidOutB Tryd.prog = true := by kernel_rfl

section
variable {H : Type} {enc : TypeId × Value → H}
theorem all_stays {W W' : World} (hb : Below W.heap.size W W') : ∀ {ts : List TypeId} {vs : List Value} {ds : List (DataW H)} {ps : List MemPlace}, DataW.TrodAll enc Tryd.prog W 0 (fun _ => true) true ts vs ds ps →
    (∀ t ∈ ts, Tryd.prog.readableRec t = true ∧ t < Tryd.prog.types.size) → (∀ x ∈ ps, x.block < W.heap.size) → DataW.TrodAll enc Tryd.prog W' 0 (fun b => decide (b < W.heap.size)) true ts vs ds ps
  | [], vs, ds, ps, h, _, _ => by
    obtain ⟨rfl, rfl, rfl⟩ := trodAll_nil h
    exact trodAll_mk0
  | t :: ts, vs, ds, ps, h, ht, hx => by
    obtain ⟨v0, vs0, d0, ds0, p0, q0, rfl, rfl, rfl, h0, r0⟩ := trodAll_cons h
    have h1 := Below.trod laidOut (ht t (by simp)).1 (ht t (by simp)).2 h0 hb (fun x hxm => hx x (List.mem_append.2 (Or.inl hxm)))
    have h2 := all_stays hb r0 (fun u hu => ht u (by simp [hu])) (fun x hxm => hx x (List.mem_append.2 (Or.inr hxm)))
    exact trodAll_cons_mk h1 h2

/-- the last step of a law that tells 'true' -/
theorem law_post {f : Func} {s : ChangeSpec} {W W' : World} {args : Array Value} {ds : List (DataW H)} {before : List MemPlace}
    (hW : DataW.Whole enc Tryd.prog f.params.toList s.vars false W args.toList ds [] before) (hv : s.vars = []) (hr : f.resultTypes.toList = [4]) (hsz : f.resultTypes.size = 1)
    (hts : ∀ t ∈ f.params.toList, Tryd.prog.readableRec t = true ∧ t < Tryd.prog.types.size)
    (hfn : s.fn H (ds ++ []) = { results := [.lit (.bool true)], args := ds }) (hb : Below W.heap.size W W') : s.post enc Tryd.prog f false true false false W args (.bool true) W' := by
  have hlt : ∀ p ∈ before, p.block < W.heap.size := fun p hp => hW.lt p hp
  have hW0 := hW
  obtain ⟨p, q, hA, hV, rfl, _, _⟩ := hW0
  rw [hv] at hV
  obtain ⟨_, rfl⟩ := trodVars_none hV
  refine ⟨ds, [], p ++ [], [], p, [], hW, ?_, ?_, ?_, World.keptBut_mono (fun x hx => ⟨hx, Or.inr ?_⟩) (hb.frame (· ∈ p ++ [])), fun h => by cases h⟩
  · rw [hfn, hr, hsz]
    exact trodAll_cons_mk (shut_bool Tryd.underlying4 _) trodAll_mk0
  · rw [hfn]
    exact all_stays hb hA hts (fun x hx => hlt x (by simp [hx]))
  · rw [hfn, hv]
    exact rfl
  · exact List.mem_append.1 hx
end

end Go.Proofs.YtbbaooeioogijaaDoor
namespace Go.Proofs.YtbbaooeioogijaaDoor

theorem there_nil {K : List Kn} : ∀ t : Ty, thereT [] t = true → thereT K t = true ∧ measT K t = measT [] t
  | .base _, _ => ⟨rfl, rfl⟩
  | .ptr _, _ => ⟨rfl, rfl⟩
  | .arr n t, h => by
    obtain ⟨h1, h2⟩ := there_nil (K := K) t h
    exact ⟨h1, by rw [measT, measT, h2]⟩
  | .str s, h => by simp [thereT, findK] at h
  | .fn _ _, _ => ⟨rfl, rfl⟩
mutual
theorem sized_nil {K : List Kn} : ∀ t : Ty, sizedT K t = true → sizedT [] t = true
  | .base _, _ => rfl
  | .ptr t, h => sized_nil t h
  | .arr n t, h => by
    rw [sizedT, Bool.and_eq_true] at h ⊢
    refine ⟨sized_nil t h.1, ?_⟩
    rcases ht : thereT [] t with _ | _
    · rfl
    · obtain ⟨h1, h2⟩ := there_nil (K := K) t ht
      have := h.2
      rw [h1, h2] at this
      simpa using this
  | .str _, _ => rfl
  | .fn ps r, h => by
    rw [sizedT, Bool.and_eq_true] at h ⊢
    exact ⟨sized_nil r h.1, sizeds_nil ps h.2⟩
theorem sizeds_nil {K : List Kn} : ∀ l : List Ty, sizedsT K l = true → sizedsT [] l = true
  | [], _ => rfl
  | t :: l, h => by
    rw [sizedsT, Bool.and_eq_true] at h ⊢
    exact ⟨sized_nil t h.1, sizeds_nil l h.2⟩
end
theorem checkT_typed {K : List Kn} {t : Ty} (h : checkT K t = 0) : checkT [] t = 0 ∨ checkT [] t = 4 := by
  unfold checkT at h ⊢
  split at h
  · cases h
  rename_i h1
  split at h
  · cases h
  rename_i h2
  split at h
  · cases h
  split at h
  · cases h
  rename_i h4
  rw [if_neg h1, if_neg h2]
  rcases hth : thereT [] t with _ | _
  · exact .inr rfl
  · have := sized_nil (K := K) t (by simpa using h4)
    exact .inl (by simp [this])
theorem checkS_typed {K : List Kn} {s : ByteArray} (h : checkS K s = 0) : typedS s = true := by
  have key : checkS [] s = 0 ∨ checkS [] s = 4 := by
    unfold checkS at h ⊢
    rcases ht : tyS s with _ | t
    · rw [ht] at h; cases h
    · rw [ht] at h
      exact checkT_typed h
  unfold typedS
  exact decide_eq_true key
theorem checkN_typed {L : List Sr} {s : ByteArray} (h : checkN L s = 0) : typedS s = true := by
  unfold checkN at h
  split at h
  · rename_i h1; exact absurd h (learnK_ne h1)
  · exact checkS_typed h
/-- the first thing that is wrong: its place, what it is -/
def firstE {α : Type} (f : α → Int) : List α → Nat → Option (Int × Int)
  | [], _ => none
  | x :: r, i => if f x ≠ 0 then some ((i : Int), f x) else firstE f r (i + 1)
theorem firstE_skip {α : Type} {f : α → Int} : ∀ {L : List α} {k : Nat} (n : Nat), (∀ (j : Nat) (h : j < L.length), j < k → f L[j] = 0) → firstE f L n = firstE f (L.drop k) (n + k)
  | L, 0, n, _ => by rw [List.drop_zero, Nat.add_zero]
  | [], k + 1, n, _ => by simp [firstE]
  | x :: r, k + 1, n, h => by
    rw [firstE, if_neg (by have := h 0 (by simp) (by omega); simpa using this), List.drop_succ_cons, firstE_skip (k := k) (n + 1) (fun j hj hjk => by have := h (j + 1) (by simpa using hj) (by omega); simpa using this)]
    congr 1
    omega
theorem firstE_none {α : Type} {f : α → Int} {L : List α} (h : ∀ (j : Nat) (hj : j < L.length), j < L.length → f L[j] = 0) : firstE f L 0 = none := by
  rw [firstE_skip (k := L.length) 0 h, List.drop_length]
  rfl
theorem firstE_some {α : Type} {f : α → Int} {L : List α} {i : Nat} (hi : i < L.length) (h : ∀ (j : Nat) (hj : j < L.length), j < i → f L[j] = 0) (hf : f L[i] ≠ 0) : firstE f L 0 = some ((i : Int), f L[i]) := by
  rw [firstE_skip (k := i) 0 h, List.drop_eq_getElem_cons hi, firstE, if_pos hf, Nat.zero_add]
/-- what is wrong with one of a global's expressions -/
def itemE (T : List Nd) : Int := if checkN9 T ≠ 0 then checkN9 T else if exprK (kindAt T (T.length - 1)) = false then 90 else 0
def codeE : Option (Int × Int) → Int
  | none => 0
  | some p => p.2
def headG (L : List Sr) (g : GlU) : Bool := isNameB g.var.name && (decide (0 ≤ g.at_ ∧ g.at_ ≤ 65536) && (decide (checkN L g.var.type = 0) && objectS g.var.type))
def globE (L : List Sr) (g : GlU) : Int := if headG L g = false then 90 else if 4096 < g.init.length then 3 else codeE (firstE itemE g.init 0)
/-- a parameter as its function's type has it -/
def parmE (body : Bool) (q : VrU × Ty) : Int := if q.1.type = tyB q.2 ∧ (isNameB q.1.name = true ∨ (q.1.name = ⟨#[]⟩ ∧ body = false)) ∧ (body = true ∨ q.1.vol = false) then 0 else 90
def headF (L : List Sr) (f : FnU) : Bool := isNameB f.name && (decide (0 ≤ f.at_ ∧ f.at_ ≤ 65536) && decide (checkN L f.type = 0))
def bodyE (T : List Nd) : Int := if T = [] then 0 else if checkN9 T ≠ 0 then checkN9 T else if kindAt T (T.length - 1) ≠ 21 then 90 else 0
def funcE (L : List Sr) (f : FnU) : Int := match tyS f.type with
  | some (.fn ps _) => if headF L f = false ∨ ps.length ≠ f.params.length then 90 else if codeE (firstE (parmE (decide (f.body ≠ []))) (f.params.zip ps) 0) ≠ 0 then 90 else bodyE f.body
  | _ => 90
/-- what is wrong with a unit -/
def unitE (u : UnU) : Int × Int :=
  if 64 < u.structs.length ∨ 256 < u.globals.length ∨ 256 < u.funcs.length then (0, 3)
  else if (faultN u.structs).2 ≠ 0 then faultN u.structs
  else match firstE (globE u.structs) u.globals 0 with
    | some p => p
    | none => match firstE (funcE u.structs) u.funcs 0 with
      | some p => p
      | none => (0, 0)
end Go.Proofs.YtbbaooeioogijaaDoor
