/- What a function's names stand for, handed out: the program. · The law's own example: the program. -/
import Derived.Test.YtbbaooeioogijaaDoorResR
namespace Go.Proofs.YtbbaooeioogijaaDoor
open Go.RowKit Go.Maps

def ResEnd (u : UnU) (n : ByteArray) (w : World) (e : Ending) (w' : World) : Prop := Below w.heap.size w w' ∧ match resolveN u n with
  | .inl p => e = .returned (.tuple #[.slice none 0 0, .slice none 0 0, .agg #[.int .i64 p.1, .int .i64 p.2]])
  | .inr q => ∃ sv ov, e = .returned (.tuple #[sv, ov, .agg #[.int .i64 q.1.fault.1, .int .i64 q.1.fault.2]]) ∧ w'.ownsRow w.heap.size 53 4 sv q.1.slots.length (q.1.slots.flatMap slUCells) ∧ w'.ownsRow w.heap.size 50 3 ov q.1.out.length (q.1.out.flatMap bndCells)
/-- how 'resolved' ends, in two ways -/
theorem rsvEnd_two {u : UnU} {n : ByteArray} {w w' : World} {e : Ending} (h : RsvEnd u n w e w') : Below w.heap.size w w' ∧ ((∃ a b p, e = .returned (.tuple #[.pointer a, .pointer b, .agg #[.int .i64 p.1, .int .i64 p.2]]) ∧ p.2 ≠ 0 ∧ resolveN u n = .inl p) ∨
    ∃ rb b f fs B vp vb sv ov, e = .returned (.tuple #[.pointer (some ⟨rb, 0, none⟩), .pointer (some ⟨b, 0, none⟩), .agg #[.int .i64 (goneR fs f).fault.1, .int .i64 0]]) ∧ (goneR fs f).fault.2 = 0 ∧ resolveN u n = .inr (goneR fs f, f, fs) ∧ fileN u = .inr fs ∧ bodyOf fs n = some f ∧ w.heap.size ≤ B ∧ B ≤ w'.heap.size ∧ ResM B w' rb f vp vb sv ov (goneR fs f) ∧ IsFnU B w' f vp vb) := by
  obtain ⟨hb, h⟩ := h
  refine ⟨hb, ?_⟩
  rcases hf : fileN u with p | fs
  · rw [hf] at h
    exact .inl ⟨none, none, p, h, fileN_ne hf, by unfold resolveN; rw [hf]⟩
  · rw [hf] at h
    simp only at h
    rcases hbo : bodyOf fs n with _ | f
    · rw [hbo] at h
      exact .inl ⟨none, none, (0, 4), h, by decide, by unfold resolveN; rw [hf]; simp only; rw [hbo]⟩
    · rw [hbo] at h
      obtain ⟨A, B, rb, b, vp, vb, sv, ov, he, h1, h2, h3, h4, h5⟩ := h
      by_cases h0 : (goneR fs f).fault.2 = 0
      · refine .inr ⟨rb, b, f, fs, B, vp, vb, sv, ov, by rw [he, h0], h0, ?_, rfl, hbo, by omega, h3, h4, h5.mono h2⟩
        unfold resolveN
        rw [hf]
        simp only
        rw [hbo]
        simp only
        rw [if_neg (by simp [h0])]
      · refine .inl ⟨_, _, (goneR fs f).fault, he, h0, ?_⟩
        unfold resolveN
        rw [hf]
        simp only
        rw [hbo]
        simp only
        rw [if_pos h0]
set_option maxRecDepth 100000 in
set_option maxHeartbeats 8000000 in
theorem resolve11_ok (u : UnU) (vs vg vf : Value) (n : ByteArray) (w : World) (hE : TE w) (hU : IsUn w.heap.size w u vs vg vf) (hn : n.size ≤ maxLen) :
    Calls Tryd.prog 7 #[.agg #[vs, vg, vf], .string n] w (ResEnd u n w) := by
  obtain ⟨sa, sc, mv, rfl, _⟩ := hU.structs
  obtain ⟨ag, cg, rfl, _⟩ := glsU_len hU.globals
  obtain ⟨af, cf, rfl, _⟩ := fnsU_len hU.funcs
  go_enter Tryd.func7, Tryd.ntmps7
  go_upto_region 1 with fail
  have hb1 := (ba1 w (.cells #[.slice sa u.structs.length sc, .slice ag u.globals.length cg, .slice af u.funcs.length cf] 26)).alloc (ba1 w (.cells #[.slice sa u.structs.length sc, .slice ag u.globals.length cg, .slice af u.funcs.length cf] 26)).size (.cells #[.int .i64 0, .int .i64 0] 32)
  have hxq : ((w.alloc (.cells #[.slice sa u.structs.length sc, .slice ag u.globals.length cg, .slice af u.funcs.length cf] 26)).alloc (.cells #[.int .i64 0, .int .i64 0] 32)).heap[w.heap.size]? = some (.cells #[.slice sa u.structs.length sc, .slice ag u.globals.length cg, .slice af u.funcs.length cf] 26 (0, 0)) := ((ba1 _ _).block _ (lt_of_heap (heap_alloc_new w _))).trans (heap_alloc_new w _)
  have hxr : ((w.alloc (.cells #[.slice sa u.structs.length sc, .slice ag u.globals.length cg, .slice af u.funcs.length cf] 26)).alloc (.cells #[.int .i64 0, .int .i64 0] 32)).heap[w.heap.size + 1]? = some (.cells #[.int .i64 0, .int .i64 0] 32 (0, 0)) := by
    have := heap_alloc_new (w.alloc (.cells #[.slice sa u.structs.length sc, .slice ag u.globals.length cg, .slice af u.funcs.length cf] 26)) (.cells #[.int .i64 0, .int .i64 0] 32)
    simpa using this
  generalize (w.alloc (.cells #[.slice sa u.structs.length sc, .slice ag u.globals.length cg, .slice af u.funcs.length cf] 26)).alloc (.cells #[.int .i64 0, .int .i64 0] 32) = w1 at *
  have HR := Lib.hid (fun w' (h : Below w1.heap.size w1 w') => two_block ((h.block _ (lt_of_heap hxr)).trans hxr))
  have HB1 := Lib.hid hb1
  have HRs := Lib.hid ((resolved11_ok u _ _ _ n w1 (hE.below hb1) (hU.go hb1) hn).mono fun e w' h => rsvEnd_two h)
  obtain ⟨⟨q0, q1, q2⟩, _⟩ := three_block hxq
  have HX := Lib.hid hxr
  clear hxq hxr hU hE
  go_upto_region 2 with (go_at_call 15; (with_reducible refine HRs.out.mono ?_); rintro e w2 ⟨hb2, ⟨a, b, p, rfl, hp, hres⟩ | ⟨rb, b, f, fs, B, vp, vb, sv, ov, rfl, hp, hres, _, _, hwB, hBw, hRM, _⟩⟩)
  · obtain ⟨ux, uc⟩ := p
    simp only at hp
    have t1 : (uc != 0) = true := by simpa using hp
    have HB2 := Lib.hid (hb2.alloc hb2.size (.cells #[.int .i64 ux, .int .i64 uc] 32))
    obtain ⟨⟨d0, d1⟩, fd⟩ := HR.out _ HB2.out
    have fd0 := fd 0
    have fd1 := fd 1
    obtain ⟨⟨y0, y1⟩, _⟩ := two_block (heap_alloc_new w2 (.cells #[.int .i64 ux, .int .i64 uc] 32))
    have HP := Lib.hid hres
    clear q0 q1 q2 hb2 hres
    generalize w2.alloc (.cells #[.int .i64 ux, .int .i64 uc] 32) = w3 at *
    go_wp2_with fail
    go_region_law (fail)
    all_goals
      go_wp2_with fail
      exact bodyPost_ret (v := .tuple #[.slice none 0 0, .slice none 0 0, .agg #[.int .i64 ux, .int .i64 uc]]) (by simp [results, Tryd.results7, go_sem, d0, d1]) rfl ⟨Below.drew (Below.setCell (Below.setCell (HB1.out.trans (HB2.out.mono HB1.out.size)) (Nat.le_succ _) _) (Nat.le_succ _) _), by rw [HP.out]⟩
  · have HP := Lib.hid hres
    have HB2 := Lib.hid (hb2.alloc hb2.size (.cells #[.int .i64 (goneR fs f).fault.1, .int .i64 0] 32))
    obtain ⟨⟨d0, d1⟩, fd⟩ := HR.out _ HB2.out
    have fd0 := fd 0
    have fd1 := fd 1
    obtain ⟨⟨y0, y1⟩, _⟩ := two_block (heap_alloc_new w2 (.cells #[.int .i64 (goneR fs f).fault.1, .int .i64 0] 32))
    have hRM3 := hRM.below (ba1 w2 (.cells #[.int .i64 (goneR fs f).fault.1, .int .i64 0] 32))
    have HRM := Lib.hid hRM3
    obtain ⟨⟨k0, k1, k2, k3, k4, k5, k6, k7, k8⟩, _⟩ := nine_block hRM3.blk
    have HLo := Lib.hid (Nat.lt_of_lt_of_le (lt_of_heap HX.out) hwB)
    have HH := Lib.hid hp
    clear q0 q1 q2 hb2 hres hRM hRM3 hp hwB hBw k0 k1 k2 k3 k4 k7 k8
    generalize w2.alloc (.cells #[.int .i64 (goneR fs f).fault.1, .int .i64 0] 32) = w3 at *
    go_wp2_with fail
    go_region_law (fail)
    all_goals
      go_wp2_with fail
      have hmv : ∀ k, B ≤ k → (((w3.setCell ⟨w.heap.size + 1, 0, none⟩ (.int .i64 (goneR fs f).fault.1)).setCell ⟨w.heap.size + 1, 1, none⟩ (.int .i64 0)).drew).heap[k]? = w3.heap[k]? := fun k hk => by
        have h1 := HLo.out
        have hne : k ≠ w.heap.size + 1 := by omega
        show ((w3.setCell ⟨w.heap.size + 1, 0, none⟩ (.int .i64 (goneR fs f).fault.1)).setCell ⟨w.heap.size + 1, 1, none⟩ (.int .i64 0)).heap[k]? = _
        rw [Below.heap_setCell _ _ _ _ hne, Below.heap_setCell _ _ _ _ hne]
      refine bodyPost_ret (v := .tuple #[sv, ov, .agg #[.int .i64 (goneR fs f).fault.1, .int .i64 0]]) (by simp [results, Tryd.results7, go_sem, d0, d1]) rfl ⟨Below.drew (Below.setCell (Below.setCell (HB1.out.trans (HB2.out.mono HB1.out.size)) (Nat.le_succ _) _) (Nat.le_succ _) _), ?_⟩
      rw [HP.out]
      have h1 := HLo.out
      exact ⟨sv, ov, by rw [HH.out], own_move HRM.out.slots (by omega) hmv, own_move HRM.out.out (by omega) hmv⟩
end Go.Proofs.YtbbaooeioogijaaDoor
namespace Go.Proofs.YtbbaooeioogijaaDoor
open Go.RowKit Go.Maps

def tA : ByteArray := ⟨#[97]⟩
def tX : ByteArray := ⟨#[120]⟩
def tI : ByteArray := ⟨#[105]⟩
def tF : ByteArray := ⟨#[102]⟩
def tFii : ByteArray := ⟨#[102, 40, 105, 41, 105]⟩
def exB11 : List Nd := [⟨3, 0, 9, 0, tA, ⟨#[]⟩⟩, ⟨22, 1, 8, 0, tX, tI⟩, ⟨3, 0, 30, 0, tX, ⟨#[]⟩⟩, ⟨32, 1, 29, 0, ⟨#[]⟩, ⟨#[]⟩⟩, ⟨21, 2, 7, 0, ⟨#[]⟩, ⟨#[]⟩⟩]
def exF11 : FnU := ⟨5, tF, tFii, [⟨tA, tI, false⟩], exB11⟩
def exU11 : UnU := ⟨[], [⟨0, ⟨tX, tI, false⟩, []⟩], [exF11]⟩
def exR11 : ResN := ⟨[⟨tA, tI, false, true⟩, ⟨tX, tI, false, false⟩], [⟨3, 0, tI⟩, ⟨3, 1, tI⟩, ⟨3, 1, tI⟩, bnd0, bnd0], (0, 0)⟩
/-- going over, in a form that computes -/
def visitG (t : List Nd) (fr : List Nat) (fs : FileN) : Nat → Nat → List ScN → ScN → Bool → ResN → ResN × ScN
  | 0, _, _, s, _, r => (r, s)
  | m + 1, k, up, s, own, r =>
    if r.fault.2 ≠ 0 then (r, s)
    else if (t.getD k ndU0).kind = 22 then
      let q := (partsAt t fr k).foldl (fun q p => visitG t fr fs m p up q.2 false q.1) (slotR r s (declS (t.getD k ndU0)) (t.getD k ndU0).at_, s.take (t.getD k ndU0).text)
      (q.1.put k (slotB r (declS (t.getD k ndU0))), q.2.bind (t.getD k ndU0).text (slotB r (declS (t.getD k ndU0))))
    else if opensN (t.getD k ndU0) own then (((partsAt t fr k).foldl (fun q p => visitG t fr fs m p (s :: up) q.2 false q.1) (nameR fs (s :: up) (t.getD k ndU0) k r, ScN.new)).1, s)
    else (partsAt t fr k).foldl (fun q p => visitG t fr fs m p up q.2 false q.1) (nameR fs (s :: up) (t.getD k ndU0) k r, s)
theorem visits_fold {t : List Nd} {fr : List Nat} {fs : FileN} {m : Nat} (h : ∀ k up s own r, visitF t fr fs m k up s own r = visitG t fr fs m k up s own r) : ∀ (ps : List Nat) (up : List ScN) (s : ScN) (r : ResN), visitsF t fr fs m ps up s r = ps.foldl (fun q p => visitG t fr fs m p up q.2 false q.1) (r, s)
  | [], _, _, _ => by rw [visitsF]; rfl
  | p :: ps, up, s, r => by
    rw [visitsF, visits_fold h ps, h, List.foldl_cons]
theorem visit_fold {t : List Nd} {fr : List Nat} {fs : FileN} : ∀ (m k : Nat) (up : List ScN) (s : ScN) (own : Bool) (r : ResN), visitF t fr fs m k up s own r = visitG t fr fs m k up s own r
  | 0, _, _, _, _, _ => by rw [visitF]; rfl
  | m + 1, k, up, s, own, r => by
    have h := visits_fold (visit_fold (t := t) (fr := fr) (fs := fs) m)
    rw [visitF, visitG]
    simp only [h]
deriving instance DecidableEq for SlU
deriving instance DecidableEq for ResN
def goneG (fs : FileN) (f : FnU) : ResN :=
  let q := parmsR f.params f.at_ ⟨[], List.replicate f.body.length bnd0, (0, 0)⟩ ScN.new
  (visitG f.body ((beginsN f.body).getD []) fs (f.body.length - 1 + 1) (f.body.length - 1) [] q.2 true q.1).1
theorem gone_fold (fs : FileN) (f : FnU) : goneR fs f = goneG fs f := by
  unfold goneR goneG visitN
  simp only [visit_fold]
theorem ex_check : (match fileN exU11 with
    | .inl _ => false
    | .inr fs => match bodyOf fs tF with
      | none => false
      | some f => decide (goneG fs f = exR11)) = true := by decide +kernel
theorem ex_resolve : ∃ q, resolveN exU11 tF = .inr q ∧ q.1 = exR11 := by
  have h := ex_check
  rcases e : fileN exU11 with p | fs
  · rw [e] at h; cases h
  · rw [e] at h
    simp only at h
    rcases e2 : bodyOf fs tF with _ | f
    · rw [e2] at h; cases h
    · rw [e2] at h
      simp only at h
      have h2 : goneR fs f = exR11 := by rw [gone_fold]; exact of_decide_eq_true h
      refine ⟨(exR11, f, fs), ?_, rfl⟩
      unfold resolveN
      rw [e]
      simp only
      rw [e2]
      simp only
      rw [h2, if_neg (by decide)]
theorem isSl_lit {α : Type} {k : Nat} {cells : α → List Value} (hk : ∀ a, (cells a).length = k) {w : World} {b : Nat} {T : TypeId} {cs : Array Value} {L : List α} (h : w.heap[b]? = some (.cells cs T (0, 0))) (hc : cs.toList = L.flatMap cells) : IsSl k cells w.heap.size w (some ⟨b, 0, none⟩) L := fun _ =>
  ⟨b, 0, rfl, lt_of_heap h, fun i x hx j u hu => by
    have := flat_at (k := k) (cells := cells) hk hx hu
    rw [← hc] at this
    simp [World.cell?, h]
    simpa using this⟩
theorem ex_unit {w : World} {b g p h : Nat} {T1 T2 T3 T4 : TypeId} (hb : w.heap[b]? = some (.cells #[.int .i64 3, .int .i64 0, .int .i64 9, .int .i64 0, .string tA, .string ⟨#[]⟩, .int .i64 22, .int .i64 1, .int .i64 8, .int .i64 0, .string tX, .string tI, .int .i64 3, .int .i64 0, .int .i64 30, .int .i64 0, .string tX, .string ⟨#[]⟩, .int .i64 32, .int .i64 1, .int .i64 29, .int .i64 0, .string ⟨#[]⟩, .string ⟨#[]⟩, .int .i64 21, .int .i64 2, .int .i64 7, .int .i64 0, .string ⟨#[]⟩, .string ⟨#[]⟩] T1 (0, 0)))
    (hg : w.heap[g]? = some (.cells #[.int .i64 0, .string tX, .string tI, .bool false, .slice none 0 0] T2 (0, 0))) (hp : w.heap[p]? = some (.cells #[.string tA, .string tI, .bool false] T3 (0, 0))) (hh : w.heap[h]? = some (.cells #[.int .i64 5, .string tF, .string tFii, .slice (some ⟨p, 0, none⟩) 1 1, .slice (some ⟨b, 0, none⟩) 5 5] T4 (0, 0))) :
    IsUn w.heap.size w exU11 (.slice none 0 0) (.slice (some ⟨g, 0, none⟩) 1 1) (.slice (some ⟨h, 0, none⟩) 1 1) := by
  have hm : (1 : Nat) ≤ maxLen := by decide
  have h5 : (5 : Nat) ≤ maxLen := by decide
  have i6 : ∀ n : Int, -1000 ≤ n → n ≤ 1000 → i64In n := fun n h1 h2 => by unfold i64In; omega
  refine ⟨⟨none, 0, [], rfl, ⟨Nat.le_refl _, Nat.zero_le _, by decide, (fun x hx => by cases hx), (fun v hv => by cases hv), fun _ => ⟨rfl, rfl⟩⟩, ⟨rfl, fun h => absurd rfl h, fun x hx => by cases hx⟩⟩, ?_, ?_⟩
  · refine ⟨some ⟨g, 0, none⟩, 1, [(⟨0, ⟨tX, tI, false⟩, []⟩, .slice none 0 0)], rfl, ⟨by decide, Nat.le_refl _, hm, fun e => by cases e⟩, rfl, isSl_lit glU_len hg rfl, fun q hq => ?_⟩
    rw [List.mem_singleton.1 hq]
    exact ⟨⟨by decide, by decide⟩, i6 _ (by decide) (by decide), none, 0, [], rfl, ⟨by decide, Nat.le_refl _, by decide, fun _ => ⟨rfl, rfl⟩⟩, rfl, isSl_nil, fun q hq => by cases hq⟩
  · refine ⟨some ⟨h, 0, none⟩, 1, [(exF11, .slice (some ⟨p, 0, none⟩) 1 1, .slice (some ⟨b, 0, none⟩) 5 5)], rfl, ⟨by decide, Nat.le_refl _, hm, fun e => by cases e⟩, rfl, isSl_lit fnU_len hh rfl, fun q hq => ?_⟩
    rw [List.mem_singleton.1 hq]
    have hF : IsFnU w.heap.size w exF11 (.slice (some ⟨p, 0, none⟩) 1 1) (.slice (some ⟨b, 0, none⟩) 5 5) := by
      refine ⟨by decide, by decide, i6 5 (by decide) (by decide), ⟨some ⟨p, 0, none⟩, 1, rfl, ⟨by decide, Nat.le_refl _, hm, fun e => by cases e⟩, isSl_lit vr_len hp rfl, fun x hx => ?_⟩, ⟨some ⟨b, 0, none⟩, 5, rfl, ⟨by decide, Nat.le_refl _, h5, fun e => by cases e⟩, isSl_lit nd_len hb rfl, fun x hx => ?_⟩⟩
      · rw [List.mem_singleton.1 hx]
        exact ⟨by decide, by decide⟩
      · simp only [exF11, exB11, List.mem_cons, List.not_mem_nil, or_false] at hx
        rcases hx with rfl | rfl | rfl | rfl | rfl <;> exact ⟨i6 _ (by decide) (by decide), i6 _ (by decide) (by decide), i6 _ (by decide) (by decide), i6 _ (by decide) (by decide)⟩
    exact hF
/-- five blocks laid, one behind the other -/
theorem five_allocs (w : World) (o0 o1 o2 o3 o4 : Obj) : let w5 := ((((w.alloc o0).alloc o1).alloc o2).alloc o3).alloc o4
    (w5.heap[w.heap.size]? = some o0 ∧ w5.heap[w.heap.size + 1]? = some o1 ∧ w5.heap[w.heap.size + 1 + 1]? = some o2 ∧ w5.heap[w.heap.size + 1 + 1 + 1]? = some o3 ∧ w5.heap[w.heap.size + 1 + 1 + 1 + 1]? = some o4) ∧ Below w.heap.size w w5 := by
  have key : ∀ (w : World) (o : Obj) {b : Nat} {x : Obj}, w.heap[b]? = some x → (w.alloc o).heap[b]? = some x := fun w o b x h => (Below.heap_alloc _ _ _ (lt_of_heap h)).trans h
  have n0 := heap_alloc_new w o0
  have n1 := heap_alloc_new (w.alloc o0) o1
  have n2 := heap_alloc_new ((w.alloc o0).alloc o1) o2
  have n3 := heap_alloc_new (((w.alloc o0).alloc o1).alloc o2) o3
  have n4 := heap_alloc_new ((((w.alloc o0).alloc o1).alloc o2).alloc o3) o4
  simp only [World.size_alloc] at n1 n2 n3 n4
  refine ⟨⟨key _ _ (key _ _ (key _ _ (key _ _ n0))), key _ _ (key _ _ (key _ _ n1)), key _ _ (key _ _ n2), key _ _ n3, n4⟩, ?_⟩
  have hb := (((((Below.refl w.heap.size w).alloc (Nat.le_refl _) o0).alloc (by simp) o1).alloc (by simp; omega) o2).alloc (by simp; omega) o3).alloc (by simp; omega) o4
  exact hb
theorem loc_at {α : Type} {k : Nat} {cells : α → List Value} (hk : ∀ a, (cells a).length = k) {w : World} {base n : Nat} {T : TypeId} {v : Value} {L : List α} (h : w.ownsRow base T k v n (L.flatMap cells)) (hn : n = L.length) (h0 : L ≠ []) : ∃ g cap, v = .slice (some ⟨g, 0, none⟩) n cap ∧ ∀ (i : Nat) (hi : i < L.length) j c, (cells L[i])[j]? = some c → w.cell? ⟨g, i * k + j, none⟩ = some c := by
  obtain ⟨g, cap, rfl, _⟩ := own_rowAt hk h hn (i := 0) (List.length_pos_iff.2 h0)
  exact ⟨g, cap, rfl, fun i hi j c hj => own_cell hk h (List.getElem?_eq_getElem hi) hj⟩
set_option maxRecDepth 100000 in
set_option maxHeartbeats 8000000 in
theorem works11_ok (w : World) (hE : TE w) : Calls Tryd.prog 6 #[] w fun e w' => e = .returned (.bool true) ∧ Below w.heap.size w w' := by
  have HE := Lib.hid hE
  clear hE
  go_enter Tryd.func6, Tryd.ntmps6
  go_upto_region 3 with fail
  have h5 := five_allocs w (.cells #[.int .i64 3, .int .i64 0, .int .i64 9, .int .i64 0, .string ⟨#[97]⟩, .string ⟨#[]⟩, .int .i64 22, .int .i64 1, .int .i64 8, .int .i64 0, .string ⟨#[120]⟩, .string ⟨#[105]⟩, .int .i64 3, .int .i64 0, .int .i64 30, .int .i64 0, .string ⟨#[120]⟩, .string ⟨#[]⟩, .int .i64 32, .int .i64 1, .int .i64 29, .int .i64 0, .string ⟨#[]⟩, .string ⟨#[]⟩, .int .i64 21, .int .i64 2, .int .i64 7, .int .i64 0, .string ⟨#[]⟩, .string ⟨#[]⟩] 48) (.cells #[.int .i64 0, .string ⟨#[120]⟩, .string ⟨#[105]⟩, .bool false, .slice none 0 0] 66) (.cells #[.string ⟨#[97]⟩, .string ⟨#[105]⟩, .bool false] 46) (.cells #[.int .i64 5, .string ⟨#[102]⟩, .string ⟨#[102, 40, 105, 41, 105]⟩, .slice (some ⟨w.heap.size + 1 + 1, 0, none⟩) 1 1, .slice (some ⟨w.heap.size, 0, none⟩) 5 5] 44) (.cells #[.slice none 0 0, .slice (some ⟨w.heap.size + 1, 0, none⟩) 1 1, .slice (some ⟨w.heap.size + 1 + 1 + 1, 0, none⟩) 1 1] 26)
  simp only at h5
  generalize ((((w.alloc (.cells #[.int .i64 3, .int .i64 0, .int .i64 9, .int .i64 0, .string ⟨#[97]⟩, .string ⟨#[]⟩, .int .i64 22, .int .i64 1, .int .i64 8, .int .i64 0, .string ⟨#[120]⟩, .string ⟨#[105]⟩, .int .i64 3, .int .i64 0, .int .i64 30, .int .i64 0, .string ⟨#[120]⟩, .string ⟨#[]⟩, .int .i64 32, .int .i64 1, .int .i64 29, .int .i64 0, .string ⟨#[]⟩, .string ⟨#[]⟩, .int .i64 21, .int .i64 2, .int .i64 7, .int .i64 0, .string ⟨#[]⟩, .string ⟨#[]⟩] 48)).alloc (.cells #[.int .i64 0, .string ⟨#[120]⟩, .string ⟨#[105]⟩, .bool false, .slice none 0 0] 66)).alloc (.cells #[.string ⟨#[97]⟩, .string ⟨#[105]⟩, .bool false] 46)).alloc (.cells #[.int .i64 5, .string ⟨#[102]⟩, .string ⟨#[102, 40, 105, 41, 105]⟩, .slice (some ⟨w.heap.size + 1 + 1, 0, none⟩) 1 1, .slice (some ⟨w.heap.size, 0, none⟩) 5 5] 44)).alloc (.cells #[.slice none 0 0, .slice (some ⟨w.heap.size + 1, 0, none⟩) 1 1, .slice (some ⟨w.heap.size + 1 + 1 + 1, 0, none⟩) 1 1] 26) = w5 at *
  obtain ⟨⟨n0, n1, n2, n3, n4⟩, hb5⟩ := h5
  have HB5 := Lib.hid hb5
  have hun : IsUn w5.heap.size w5 exU11 (.slice none 0 0) (.slice (some ⟨w.heap.size + 1, 0, none⟩) 1 1) (.slice (some ⟨w.heap.size + 1 + 1 + 1, 0, none⟩) 1 1) := ex_unit n0 n1 n2 n3
  obtain ⟨q, hq, hqe⟩ := ex_resolve
  have HRs := Lib.hid (show Calls Tryd.prog 7 #[.agg #[.slice none 0 0, .slice (some ⟨w.heap.size + 1, 0, none⟩) 1 1, .slice (some ⟨w.heap.size + 1 + 1 + 1, 0, none⟩) 1 1], .string ⟨#[102]⟩] w5 (fun e w'' => Below w5.heap.size w5 w'' ∧ ∃ sv ov, e = .returned (.tuple #[sv, ov, .agg #[.int .i64 0, .int .i64 0]]) ∧ w''.ownsRow w5.heap.size 53 4 sv 2 (exR11.slots.flatMap slUCells) ∧ w''.ownsRow w5.heap.size 50 3 ov 5 (exR11.out.flatMap bndCells)) from (resolve11_ok exU11 _ _ _ tF w5 (HE.out.below hb5) hun (by decide)).mono fun e w'' ⟨h1, h2⟩ => ⟨h1, by rw [hq] at h2; simp only [hqe] at h2; exact h2⟩)
  obtain ⟨⟨x0, x1, x2⟩, _⟩ := three_block n4
  clear n0 n1 n2 n3 n4 hb5 hun hq hqe
  go_upto_region 4 with (go_at_call 7; (with_reducible refine HRs.out.mono ?_); rintro e w6 ⟨hb6, sv, ov, rfl, hsv, hov⟩; obtain ⟨g, gc, rfl, hgs⟩ := loc_at slU_len hsv rfl (by simp [exR11]); obtain ⟨h, hc, rfl, hhs⟩ := loc_at bnd_len hov rfl (by simp [exR11]); have HB6 := Lib.hid (HB5.out.trans (hb6.mono HB5.out.size)); have HHz := Lib.hid (And.intro hgs hhs); have HL := Lib.hid (And.intro (own_lt hsv rfl) (own_lt hov rfl)); clear hb6 hsv hov hgs hhs)
  have hb7 := ba1 w6 (.cells #[.int .i64 0, .int .i64 0] 32)
  obtain ⟨⟨y0, y1⟩, _⟩ := two_block (heap_alloc_new w6 (.cells #[.int .i64 0, .int .i64 0] 32))
  have a0 := (hb7.cell (p := ⟨g, 0, none⟩) HL.out.1).trans (HHz.out.1 0 (by decide) 0 _ rfl)
  have a1 := (hb7.cell (p := ⟨g, 3, none⟩) HL.out.1).trans (HHz.out.1 0 (by decide) 3 _ rfl)
  have a2 := (hb7.cell (p := ⟨g, 4, none⟩) HL.out.1).trans (HHz.out.1 1 (by decide) 0 _ rfl)
  have c0 := (hb7.cell (p := ⟨h, 0, none⟩) HL.out.2).trans (HHz.out.2 0 (by decide) 0 _ rfl)
  have c1 := (hb7.cell (p := ⟨h, 1, none⟩) HL.out.2).trans (HHz.out.2 0 (by decide) 1 _ rfl)
  have c2 := (hb7.cell (p := ⟨h, 2, none⟩) HL.out.2).trans (HHz.out.2 0 (by decide) 2 _ rfl)
  have c6 := (hb7.cell (p := ⟨h, 6, none⟩) HL.out.2).trans (HHz.out.2 2 (by decide) 0 _ rfl)
  have c7 := (hb7.cell (p := ⟨h, 7, none⟩) HL.out.2).trans (HHz.out.2 2 (by decide) 1 _ rfl)
  have c8 := (hb7.cell (p := ⟨h, 8, none⟩) HL.out.2).trans (HHz.out.2 2 (by decide) 2 _ rfl)
  simp only [exR11, List.getElem_cons_zero, List.getElem_cons_succ, tA, tX, tI] at a0 a1 a2 c0 c1 c2 c6 c7 c8
  have HB7 := Lib.hid (HB6.out.trans (hb7.mono HB6.out.size))
  clear hb7 x0 x1 x2
  generalize w6.alloc (.cells #[.int .i64 0, .int .i64 0] 32) = w7 at *
  go_wp2_with fail
  go_ret
  exact ⟨rfl, HB7.out⟩
end Go.Proofs.YtbbaooeioogijaaDoor
