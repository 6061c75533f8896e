/- The names of a file handed out: the program. · Going over a tree: the program's walk, whatever a round does. · Any tree is judged, and taken apart, as the document says: the law's walk. · Walk: what is handed back. · Parameters copied: slices.Clone. · Rows of functions of one's own: which blocks their parts lie in. · A function for each name: the program. · What going over a function grows: few slots, few names. Plain: nothing of the program. · A function gone over, in memory: what is found so far, scopes. · The first fault kept; a scope made; names looked for in scopes: the program. · A name looked for in scopes: the program. -/
import Derived.Test.YtbbaooeioogijaaDoorFiled
import Derived.RangeFuncNested
import Derived.RangeFuncBound
import Derived.RangeFuncCalls
import Derived.RangeFuncLeaves
import Derived.Shelf.Abstract
import Derived.WalkKit
import Derived.OwnWalkIn
import Derived.TacticsInMore
import Derived.LoopNIn
import Derived.LoopIn
import Derived.Test.YtbbaooeioogijaaDoorMg19
import Derived.Test.YtbbaooeioogijaaDoorMg16
namespace Go.Proofs.YtbbaooeioogijaaDoor
open Go.RowKit Go.Maps

theorem globsN_ne : ∀ {L : List GlU} {i : Nat} {s : FileN} {p : Int × Int}, globsN L i s = .inl p → p.2 ≠ 0
  | [], i, s, p, h => by cases h
  | g :: r, i, s, p, h => by
    rw [globsN] at h
    split at h
    · obtain rfl := Sum.inl.inj h
      show (6 : Int) ≠ 0
      decide
    · exact globsN_ne h
theorem funcsN_ne : ∀ {L : List FnU} {s : FileN} {p : Int × Int}, funcsN L s = .inl p → p.2 ≠ 0
  | [], s, p, h => by cases h
  | g :: r, s, p, h => by
    rw [funcsN] at h
    split at h
    · rename_i e
      cases h
      exact oneF_ne e
    · exact funcsN_ne h
theorem fileN_ne {u : UnU} {p : Int × Int} (h : fileN u = .inl p) : p.2 ≠ 0 := by
  unfold fileN at h
  split at h
  · rename_i h1; cases h; exact h1
  · split at h
    · rename_i e; cases h; exact globsN_ne e
    · exact funcsN_ne h
theorem own_move {w w' : World} {A B : Nat} {T : TypeId} {k n : Nat} {v : Value} {xs : List Value} (h : w.ownsRow B T k v n xs) (hA : A ≤ B) (hw : ∀ k, B ≤ k → w'.heap[k]? = w.heap[k]?) : w'.ownsRow A T k v n xs := by
  obtain ⟨h1, h2⟩ := h
  refine ⟨h1, ?_⟩
  rcases h2 with h2 | ⟨g, cap, cur, e, hb, hg, h3⟩
  · exact .inl h2
  · exact .inr ⟨g, cap, cur, e, Nat.le_trans hA hb, (hw g hb).trans hg, h3⟩
theorem FileM.open {A B b mb : Nat} {w : World} {s : FileN} (h : FileM A B w b mb s) : ∃ sv av : Value, (w.cell? ⟨b, 1, none⟩ = some sv ∧ w.cell? ⟨b, 2, none⟩ = some av) ∧ ∀ w' : World, (∀ k, B ≤ k → w'.heap[k]? = w.heap[k]?) → w'.ownsRow A 50 3 sv s.ents.length (s.ents.flatMap fun e => bndCells e.2) ∧ w'.ownsRow A 9 1 av s.ents.length (s.ents.map fun e => .string e.1) := by
  obtain ⟨hA, lv, sv, av, Q, n, hR, _⟩ := h
  exact ⟨sv, av, ⟨hR.cells.1.2.1, hR.cells.1.2.2.1⟩, fun w' hw => ⟨own_move hR.sizes hA hw, own_move hR.aligns hA hw⟩⟩
end Go.Proofs.YtbbaooeioogijaaDoor
namespace Go.Proofs.YtbbaooeioogijaaDoor
open Go.RowKit Go.Shelf

attribute [local go_sem] Oper.semAt_some

/-- numbers of one's own lie in a block that was not there -/
theorem nat_far_any {w : World} {base : Nat} {v : Value} {L : List Nat} (h : NatRow w base v L) : ∀ (g off n cap : Nat), v = .slice (some ⟨g, off, none⟩) n cap → L.length ≠ 0 → base ≤ g := fun g off n cap hv hn => by
  obtain ⟨g2, cap2, hv2, hb, _⟩ := h.far (fun e => hn (by rw [e]; rfl))
  rw [hv] at hv2
  simp only [Value.slice.injEq, Option.some.injEq, Addr.mk.injEq] at hv2
  omega
end Go.Proofs.YtbbaooeioogijaaDoor
namespace Go.Proofs.YtbbaooeioogijaaDoor
open Go.RowKit

theorem NdRow.opened {w : World} {base : Nat} {v : Value} {L : List Nd} (h : NdRow w base v L) : ∃ a cap, v = .slice a L.length cap ∧ L.length ≤ cap ∧ cap ≤ maxLen ∧ IsNds w.heap.size w a L ∧ (a = none → L = [] ∧ cap = 0) := by
  obtain ⟨a, cap, hv, hN, hn⟩ := own_sl nd_len h rfl
  refine ⟨a, cap, hv, ?_, ?_, hN, hn⟩
  · rcases h.2 with ⟨e, h0⟩ | ⟨g, c, cur, e, _, _, h1, _⟩
    · omega
    · rw [hv] at e; simp only [Value.slice.injEq] at e; omega
  · rcases h.2 with ⟨e, h0⟩ | ⟨g, c, cur, e, _, _, _, h1, _⟩
    · rw [hv] at e; simp only [Value.slice.injEq] at e; rw [e.2.2]; exact Nat.zero_le _
    · rw [hv] at e; simp only [Value.slice.injEq] at e; rw [e.2.2]; exact h1
end Go.Proofs.YtbbaooeioogijaaDoor
namespace Go.Proofs.YtbbaooeioogijaaDoor
open Go.RowKit

theorem NdRow.far {w : World} {base : Nat} {v : Value} {L : List Nd} (h : NdRow w base v L) : ∀ (g off n cap : Nat), v = .slice (some ⟨g, off, none⟩) n cap → base ≤ g := fun g off n cap hv => by
  subst hv
  exact (World.ownsRow.lt h g rfl).1
section
variable (a : Option Addr) (cap : Nat) (t : List Nd) (w : World) (hE : TE w) (hI : IsNds w.heap.size w a t) (hOk : ∀ x ∈ t, NdOk x) (hz : t.length * 64 ≤ 140737488351232) (hnil : a = none → t = [] ∧ cap = 0)
include hE hI hOk hz hnil
end
end Go.Proofs.YtbbaooeioogijaaDoor
namespace Go.Proofs.YtbbaooeioogijaaDoor
open Go.RowKit

theorem infoVr : (Tryd.prog.info? 46).map (fun i => (i.zero, i.size, i.bytes)) = some (some (.agg #[.string ⟨#[]⟩, .string ⟨#[]⟩, .bool false]), 3, 40) := by kernel_rfl
theorem vr_one (t : List VrU) : ∀ u ∈ t.flatMap vrCells, u.oneCell' = true := fun u hu => by
  obtain ⟨x, _, hx⟩ := List.mem_flatMap.1 hu
  simp only [vrCells, List.mem_cons, List.not_mem_nil, or_false] at hx
  rcases hx with rfl | rfl | rfl <;> rfl
end Go.Proofs.YtbbaooeioogijaaDoor
namespace Go.Proofs.YtbbaooeioogijaaDoor
open Go.RowKit

theorem cell_sameU {w w' : World} {b : Nat} (h : w'.heap[b]? = w.heap[b]?) (j : Nat) : w'.cell? ⟨b, j, none⟩ = w.cell? ⟨b, j, none⟩ := by
  unfold World.cell?
  simp only [h]
/-- elements that lie in a block of P -/
def IsSlU {α : Type} (k : Nat) (cells : α → List Value) (P : Nat → Prop) (w : World) (a : Option Addr) (L : List α) : Prop :=
  L ≠ [] → ∃ b off, a = some ⟨b, off, none⟩ ∧ P b ∧ ∀ (i : Nat) t, L[i]? = some t → ∀ (j : Nat) u, (cells t)[j]? = some u → w.cell? ⟨b, off + i * k + j, none⟩ = some u
/-- blocks of P lie in w' as in w, and are of P' -/
def KeepPU (P P' : Nat → Prop) (w w' : World) : Prop := ∀ b, P b → w'.heap[b]? = w.heap[b]? ∧ P' b
theorem IsSlU.keep {α : Type} {k : Nat} {cells : α → List Value} {P P' : Nat → Prop} {w w' : World} {a : Option Addr} {L : List α} (h : IsSlU k cells P w a L) (hk : KeepPU P P' w w') : IsSlU k cells P' w' a L := fun hn => by
  obtain ⟨b, off, e, hp, hc⟩ := h hn
  exact ⟨b, off, e, (hk b hp).2, fun i t ht j u hu => by rw [cell_sameU (hk b hp).1]; exact hc i t ht j u hu⟩
theorem IsSlU.sl {α : Type} {k : Nat} {cells : α → List Value} {P : Nat → Prop} {w : World} {a : Option Addr} {L : List α} {B : Nat} (h : IsSlU k cells P w a L) (hP : ∀ b, P b → b < B) : IsSl k cells B w a L := fun hn => by
  obtain ⟨b, off, e, hp, hc⟩ := h hn
  exact ⟨b, off, e, hP b hp, hc⟩
theorem own_slU {α : Type} {k : Nat} {cells : α → List Value} (hk : ∀ a, (cells a).length = k) {w : World} {base n : Nat} {T : TypeId} {v : Value} {L : List α} (h : w.ownsRow base T k v n (L.flatMap cells)) (hn : n = L.length) : ∃ a cap, v = .slice a L.length cap ∧ L.length ≤ cap ∧ cap ≤ maxLen ∧ IsSlU k cells (fun b => v.ownBlock = some b ∧ base ≤ b ∧ b < w.heap.size) w a L ∧ (a = none → L.length = 0 ∧ cap = 0) := by
  subst hn
  rcases h.2 with ⟨rfl, h0⟩ | ⟨g, cap, cur, rfl, hb, hg, hn, hc, _⟩
  · refine ⟨none, 0, by rw [h0], by omega, by decide, fun hne => absurd (List.eq_nil_of_length_eq_zero h0) hne, fun _ => ⟨h0, rfl⟩⟩
  · exact ⟨_, cap, rfl, hn, hc, fun hne => ⟨g, 0, rfl, ⟨rfl, hb, lt_of_heap hg⟩, fun i t ht j u hu => by rw [Nat.zero_add]; exact own_cell hk h ht hu⟩, fun e => by cases e⟩
/-- what is made new: from B on, what is not v's own block -/
abbrev OffU (B : Nat) (w : World) (v : Value) : Nat → Prop := fun b => B ≤ b ∧ b < w.heap.size ∧ v.ownBlock ≠ some b
theorem keep_offU {B : Nat} {w w' : World} {v : Value} {row : Option Nat} (hg : w.grownBy w' row) (hr : ∀ r, row = some r → r < B ∨ v.ownBlock = some r) : KeepPU (OffU B w v) (OffU B w' v) w w' := fun b ⟨h1, h2, h3⟩ =>
  ⟨hg.block b h2 (fun e => by rcases hr b e.symm with h | h; omega; exact h3 h), h1, Nat.lt_of_lt_of_le h2 hg.size, h3⟩
theorem keep_pushU {B : Nat} {w w' : World} {v v' : Value} (hg : w.grownBy w' v.ownBlock) (hv : ∀ g, v'.ownBlock = some g → v.ownBlock = some g ∨ g = w.heap.size) : KeepPU (OffU B w v) (OffU B w' v') w w' := fun b ⟨h1, h2, h3⟩ =>
  ⟨hg.block b h2 (fun e => h3 e.symm), h1, Nat.lt_of_lt_of_le h2 hg.size, fun e => by
    rcases hv b e with h | h
    · exact h3 h
    · omega⟩
theorem grn_blwU {w w' : World} (row : Option Nat) (hb : Below w.heap.size w w') : w.grownBy w' row := ⟨hb.os, hb.tape, hb.output, hb.size, fun k hk _ => hb.block k hk⟩
end Go.Proofs.YtbbaooeioogijaaDoor
namespace Go.Proofs.YtbbaooeioogijaaDoor
open Go.RowKit

/-- the row of a file's functions -/
def FunsAt (A B : Nat) (w : World) (b : Nat) (s : FileN) (lv : Value) (Q : List (FnU × Value × Value)) : Prop := w.cell? ⟨b, 3, none⟩ = some lv ∧ w.ownsRow B 44 5 lv s.funcs.length (Q.flatMap fnUCells) ∧ Q.map Prod.fst = s.funcs ∧ (∀ q ∈ Q, IsFnU A w q.1 q.2.1 q.2.2) ∧ A ≤ B
theorem FileM.funs {A B b mb : Nat} {w : World} {s : FileN} (h : FileM A B w b mb s) : ∃ lv Q, FunsAt A B w b s lv Q := by
  obtain ⟨hA, lv, sv, av, Q, n, hR, hQ, hF, _⟩ := h
  exact ⟨lv, Q, hR.cells.1.2.2.2, hR.list, hQ, hF, hA⟩
end Go.Proofs.YtbbaooeioogijaaDoor
namespace Go.Proofs.YtbbaooeioogijaaDoor

/-- few slots -/
def Small (r : ResN) : Prop := r.slots.length ≤ 300 ∧ (r.fault.2 = 0 → r.slots.length ≤ 256)
def Grow (s : ScN) (r : ResN) (q : ResN × ScN) : Prop := r.slots.length ≤ q.1.slots.length ∧ q.2.ents.length + r.slots.length ≤ s.ents.length + q.1.slots.length ∧ q.2.taken.length + r.slots.length ≤ s.taken.length + q.1.slots.length ∧ q.1.out.length = r.out.length ∧ (Small r → Small q.1)
theorem Grow.refl (s : ScN) (r : ResN) : Grow s r (r, s) := ⟨Nat.le_refl _, Nat.le_refl _, Nat.le_refl _, rfl, id⟩
theorem Grow.trans {s : ScN} {r : ResN} {q q' : ResN × ScN} (h : Grow s r q) (g : Grow q.2 q.1 q') : Grow s r q' := by
  obtain ⟨h1, h2, h3, h4, h5⟩ := h
  obtain ⟨g1, g2, g3, g4, g5⟩ := g
  exact ⟨by omega, by omega, by omega, g4.trans h4, fun hs => g5 (h5 hs)⟩
theorem wrong_small {r : ResN} (h : Small r) (a c : Int) : Small (r.wrong a c) := by
  unfold ResN.wrong
  split
  · rename_i h0
    exact ⟨h.1, fun _ => h.2 h0⟩
  · exact h
theorem slotW_small {r : ResN} {s : ScN} {n : ByteArray} {a : Int} : (slotW r s n a).fault.2 = 0 → r.slots.length < 256 := fun h0 => (slotW_fault h0).2.1
theorem nameR_len {fs : FileN} {c : List ScN} {x : Nd} {k : Nat} {r : ResN} : (nameR fs c x k r).slots = r.slots ∧ (nameR fs c x k r).out.length = r.out.length ∧ (Small r → Small (nameR fs c x k r)) := by
  unfold nameR
  split
  · split
    · exact ⟨rfl, List.length_set, fun h => h⟩
    · refine ⟨(wrong_slots r _ _).1, ?_, fun h => ?_⟩
      · show ((r.wrong x.at_ 130).out.set k bnd0).length = _
        rw [List.length_set, (wrong_slots r _ _).2]
      · have := wrong_small h x.at_ 130
        exact this
  · exact ⟨rfl, rfl, id⟩
theorem slotR_len {r : ResN} {s : ScN} {x : SlU} {a : Int} : (slotR r s x a).slots.length = r.slots.length + 1 ∧ (slotR r s x a).out.length = r.out.length ∧ (Small r → r.fault.2 = 0 → Small (slotR r s x a)) := by
  obtain ⟨h1, h2⟩ := slotW_slots r s x.name a
  unfold slotR
  refine ⟨by simp [h1], by simp [h2], fun h hr => ?_⟩
  unfold Small
  simp only [List.length_append, h1, List.length_cons, List.length_nil]
  have h3 := h.2 hr
  refine ⟨by omega, fun h0 => ?_⟩
  have := slotW_small (s := s) (n := x.name) (a := a) h0
  omega
theorem grow_visits {t : List Nd} {fr : List Nat} {fs : FileN} {m : Nat} (h : ∀ k up s own r, Grow s r (visitF t fr fs m k up s own r)) : ∀ (ps : List Nat) up s r, Grow s r (visitsF t fr fs m ps up s r)
  | [], up, s, r => by rw [visitsF]; exact Grow.refl s r
  | p :: ps, up, s, r => by
    rw [visitsF]
    exact (h p up s false r).trans (grow_visits h ps up _ _)
theorem grow_visit {t : List Nd} {fr : List Nat} {fs : FileN} : ∀ (m k : Nat) up s own r, Grow s r (visitF t fr fs m k up s own r)
  | 0, k, up, s, own, r => by rw [visitF]; exact Grow.refl s r
  | m + 1, k, up, s, own, r => by
    have hv := grow_visits (grow_visit (t := t) (fr := fr) (fs := fs) m)
    rw [visitF]
    by_cases hr : r.fault.2 ≠ 0
    · rw [if_pos hr]; exact Grow.refl s r
    · rw [if_neg hr]
      have hr0 : r.fault.2 = 0 := by simpa using hr
      split
      · obtain ⟨l1, l2, l3⟩ := slotR_len (r := r) (s := s) (x := declS (t.getD k ndU0)) (a := (t.getD k ndU0).at_)
        obtain ⟨h1, h2, h3, h4, h5⟩ := hv (partsAt t fr k) up (s.take (t.getD k ndU0).text) (slotR r s (declS (t.getD k ndU0)) (t.getD k ndU0).at_)
        generalize visitsF t fr fs m (partsAt t fr k) up (s.take (t.getD k ndU0).text) (slotR r s (declS (t.getD k ndU0)) (t.getD k ndU0).at_) = q at *
        simp only
        have e1 : (s.take (t.getD k ndU0).text).ents.length = s.ents.length := rfl
        have e2 : (s.take (t.getD k ndU0).text).taken.length = s.taken.length + 1 := rfl
        rw [l1] at h1 h2 h3
        rw [e1] at h2
        rw [e2] at h3
        refine ⟨?_, ?_, ?_, ?_, fun hs => ?_⟩
        · show r.slots.length ≤ q.1.slots.length
          omega
        · show (q.2.ents.length + 1) + r.slots.length ≤ s.ents.length + q.1.slots.length
          omega
        · show q.2.taken.length + r.slots.length ≤ s.taken.length + q.1.slots.length
          omega
        · show (q.1.out.set k _).length = _
          rw [List.length_set, h4, l2]
        · exact h5 (l3 hs hr0)
      · obtain ⟨l1, l2, l3⟩ := nameR_len (fs := fs) (c := s :: up) (x := t.getD k ndU0) (k := k) (r := r)
        split
        · obtain ⟨h1, h2, h3, h4, h5⟩ := hv (partsAt t fr k) (s :: up) ScN.new (nameR fs (s :: up) (t.getD k ndU0) k r)
          rw [l1] at h1 h2 h3
          exact ⟨h1, Nat.add_le_add_left h1 _, Nat.add_le_add_left h1 _, h4.trans l2, fun hs => h5 (l3 hs)⟩
        · obtain ⟨h1, h2, h3, h4, h5⟩ := hv (partsAt t fr k) up s (nameR fs (s :: up) (t.getD k ndU0) k r)
          rw [l1] at h1 h2 h3
          exact ⟨h1, h2, h3, h4.trans l2, fun hs => h5 (l3 hs)⟩
theorem grow_n {t : List Nd} {fr : List Nat} {fs : FileN} (k : Nat) (up : List ScN) (s : ScN) (own : Bool) (r : ResN) : Grow s r (visitN t fr fs k up s own r) := grow_visit (k + 1) k up s own r
theorem grow_ns {t : List Nd} {fr : List Nat} {fs : FileN} : ∀ (ps : List Nat) up s r, Grow s r (visitsN t fr fs ps up s r)
  | [], up, s, r => by rw [visitsN]; exact Grow.refl s r
  | p :: ps, up, s, r => by
    rw [visitsN]
    exact (grow_n p up s false r).trans (grow_ns ps up _ _)
end Go.Proofs.YtbbaooeioogijaaDoor
namespace Go.Proofs.YtbbaooeioogijaaDoor
open Go.RowKit Go.Maps

def slUCells (x : SlU) : List Value := [.string x.name, .string x.type, .bool x.vol, .bool x.param]
theorem slU_len (x : SlU) : (slUCells x).length = 4 := rfl
theorem bnd_len (x : Bnd) : (bndCells x).length = 3 := rfl
/-- block rb holds what is found so far -/
structure ResM (B : Nat) (w : World) (rb : Nat) (f : FnU) (vp vb sv ov : Value) (r : ResN) : Prop where
  blk : w.heap[rb]? = some (.cells #[.int .i64 f.at_, .string f.name, .string f.type, vp, vb, sv, ov, .int .i64 r.fault.1, .int .i64 r.fault.2] 72 (0, 0))
  slots : w.ownsRow B 53 4 sv r.slots.length (r.slots.flatMap slUCells)
  out : w.ownsRow B 50 3 ov r.out.length (r.out.flatMap bndCells)
  base : B ≤ rb
  apart : (∀ k, sv.ownBlock = some k → k ≠ rb ∧ ov.ownBlock ≠ some k) ∧ (∀ k, ov.ownBlock = some k → k ≠ rb)
def cntB (l : List ByteArray) (t : ByteArray) : Int := ((l.countP fun q => decide (q = t) : Nat) : Int)
/-- a scope: its block, its names, its slots' names -/
structure ScM (B : Nat) (w : World) (c mb mt : Nat) (p : Value) (s : ScN) : Prop where
  blk : w.heap[c]? = some (.cells #[.map (some mb), p, .map (some mt)] 94 (0, 0))
  ents : MapB w mb s.ents.length (entB s.ents)
  taken : MapN w mt s.taken.length (cntB s.taken)
  base : B ≤ c ∧ B ≤ mb ∧ B ≤ mt
  ne : c ≠ mb ∧ c ≠ mt ∧ mb ≠ mt
/-- scopes, the innermost first, within a file -/
def ChainM (fs : FileN) (P : Nat → Prop) (w : World) : List ScN → Value → Prop
  | [], p => ∃ c mb n, p = .pointer (some ⟨c, 0, none⟩) ∧ P c ∧ P mb ∧ w.heap[c]? = some (.cells #[.map (some mb), .pointer none, .map none] 94 (0, 0)) ∧ MapB w mb n fs.look
  | s :: up, p => ∃ c mb mt n p', p = .pointer (some ⟨c, 0, none⟩) ∧ P c ∧ P mb ∧ w.heap[c]? = some (.cells #[.map (some mb), p', .map (some mt)] 94 (0, 0)) ∧ MapB w mb n (entB s.ents) ∧ ChainM fs P w up p'
theorem MapB.move {w w' : World} {b n : Nat} {f : ByteArray → Option Bnd} (h : MapB w b n f) (e : w'.heap[b]? = w.heap[b]?) : MapB w' b n f := by
  obtain ⟨D, ⟨es, cl, h1, h2⟩, hv⟩ := h
  exact ⟨D, ⟨es, cl, e.trans h1, h2⟩, hv⟩
theorem MapN.move {w w' : World} {b n : Nat} {f : ByteArray → Int} (h : MapN w b n f) (e : w'.heap[b]? = w.heap[b]?) : MapN w' b n f := by
  obtain ⟨D, ⟨es, cl, h1, h2⟩, hv⟩ := h
  exact ⟨D, ⟨es, cl, e.trans h1, h2⟩, hv⟩
theorem ChainM.keep {fs : FileN} {P P' : Nat → Prop} {w w' : World} (hk : ∀ k, P k → w'.heap[k]? = w.heap[k]? ∧ P' k) : ∀ {L : List ScN} {p : Value}, ChainM fs P w L p → ChainM fs P' w' L p
  | [], p, h => by
    obtain ⟨c, mb, n, e, hc, hm, hb, hn⟩ := h
    exact ⟨c, mb, n, e, (hk c hc).2, (hk mb hm).2, (hk c hc).1.trans hb, hn.move (hk mb hm).1⟩
  | s :: up, p, h => by
    obtain ⟨c, mb, mt, n, p', e, hc, hm, hb, hn, hu⟩ := h
    exact ⟨c, mb, mt, n, p', e, (hk c hc).2, (hk mb hm).2, (hk c hc).1.trans hb, hn.move (hk mb hm).1, ChainM.keep hk hu⟩
/-- the blocks that going over a function touches -/
def VisT (rb mb mt : Nat) (sv ov : Value) (k : Nat) : Prop := k = rb ∨ k = mb ∨ k = mt ∨ sv.ownBlock = some k ∨ ov.ownBlock = some k
abbrev FreeV (w : World) (rb mb mt : Nat) (sv ov : Value) (k : Nat) : Prop := k < w.heap.size ∧ ¬ VisT rb mb mt sv ov k
structure VisM (B : Nat) (fs : FileN) (f : FnU) (vp vb : Value) (w : World) (rb c mb mt : Nat) (p ov sv : Value) (up : List ScN) (s : ScN) (r : ResN) : Prop where
  res : ResM B w rb f vp vb sv ov r
  sc : ScM B w c mb mt p s
  chain : ChainM fs (FreeV w rb mb mt sv ov) w up p
  free : FreeV w rb mb mt sv ov c
  apart : (rb ≠ mb ∧ rb ≠ mt) ∧ (∀ k, sv.ownBlock = some k → k ≠ mb ∧ k ≠ mt) ∧ (∀ k, ov.ownBlock = some k → k ≠ mb ∧ k ≠ mt)
theorem own_lt {w : World} {B : Nat} {T : TypeId} {k n : Nat} {v : Value} {xs : List Value} (h : w.ownsRow B T k v n xs) {g : Nat} (hg : v.ownBlock = some g) : g < w.heap.size := (h.lt g hg).2
theorem ResM.lt {B : Nat} {w : World} {rb : Nat} {f : FnU} {vp vb sv ov : Value} {r : ResN} (h : ResM B w rb f vp vb sv ov r) : rb < w.heap.size := lt_of_heap h.blk
theorem ResM.below {B : Nat} {w w' : World} {rb : Nat} {f : FnU} {vp vb sv ov : Value} {r : ResN} (h : ResM B w rb f vp vb sv ov r) (hb : Below w.heap.size w w') : ResM B w' rb f vp vb sv ov r :=
  ⟨(hb.block _ h.lt).trans h.blk, h.slots.belowed hb, h.out.belowed hb, h.base, h.apart⟩
theorem ScM.move {B : Nat} {w w' : World} {c mb mt : Nat} {p : Value} {s : ScN} (h : ScM B w c mb mt p s) (h1 : w'.heap[c]? = w.heap[c]?) (h2 : w'.heap[mb]? = w.heap[mb]?) (h3 : w'.heap[mt]? = w.heap[mt]?) : ScM B w' c mb mt p s :=
  ⟨h1.trans h.blk, h.ents.move h2, h.taken.move h3, h.base, h.ne⟩
theorem ScM.below {B : Nat} {w w' : World} {c mb mt : Nat} {p : Value} {s : ScN} (h : ScM B w c mb mt p s) (hb : Below w.heap.size w w') : ScM B w' c mb mt p s :=
  h.move (hb.block _ (lt_of_heap h.blk)) (hb.block _ h.ents.lt) (hb.block _ h.taken.lt)
theorem VisM.below {B : Nat} {fs : FileN} {f : FnU} {vp vb : Value} {w w' : World} {rb c mb mt : Nat} {p ov sv : Value} {up : List ScN} {s : ScN} {r : ResN} (h : VisM B fs f vp vb w rb c mb mt p ov sv up s r) (hb : Below w.heap.size w w') : VisM B fs f vp vb w' rb c mb mt p ov sv up s r :=
  ⟨h.res.below hb, h.sc.below hb, h.chain.keep fun k hk => ⟨hb.block k hk.1, Nat.lt_of_lt_of_le hk.1 hb.size, hk.2⟩, ⟨Nat.lt_of_lt_of_le h.free.1 hb.size, h.free.2⟩, h.apart⟩
/-- what all calls leave: the row of slots may have moved -/
theorem VisM.next {B : Nat} {fs : FileN} {f : FnU} {vp vb : Value} {w w' : World} {rb c mb mt : Nat} {p ov sv sv' : Value} {up : List ScN} {s s' : ScN} {r r' : ResN} (h : VisM B fs f vp vb w rb c mb mt p ov sv up s r)
    (hk : KeepU w w' (VisT rb mb mt sv ov)) (hs : w.heap.size ≤ w'.heap.size) (hv : ∀ k, sv'.ownBlock = some k → sv.ownBlock = some k ∨ w.heap.size ≤ k) (hr : ResM B w' rb f vp vb sv' ov r') (he : MapB w' mb s'.ents.length (entB s'.ents)) (ht : MapN w' mt s'.taken.length (cntB s'.taken)) :
    VisM B fs f vp vb w' rb c mb mt p ov sv' up s' r' := by
  have hfree : ∀ k, FreeV w rb mb mt sv ov k → w'.heap[k]? = w.heap[k]? ∧ FreeV w' rb mb mt sv' ov k := fun k ⟨h1, h2⟩ => ⟨hk k h1 h2, Nat.lt_of_lt_of_le h1 hs, fun hT => by
    rcases hT with e | e | e | e | e
    · exact h2 (.inl e)
    · exact h2 (.inr (.inl e))
    · exact h2 (.inr (.inr (.inl e)))
    · rcases hv k e with e | e
      · exact h2 (.inr (.inr (.inr (.inl e))))
      · omega
    · exact h2 (.inr (.inr (.inr (.inr e))))⟩
  refine ⟨hr, ⟨(hfree c h.free).1.trans h.sc.blk, he, ht, h.sc.base, h.sc.ne⟩, h.chain.keep hfree, (hfree c h.free).2, h.apart.1, fun k e => ?_, h.apart.2.2⟩
  rcases hv k e with e | e
  · exact h.apart.2.1 k e
  · have h1 := h.sc.ents.lt
    have h2 := h.sc.taken.lt
    exact ⟨by omega, by omega⟩
end Go.Proofs.YtbbaooeioogijaaDoor
namespace Go.Proofs.YtbbaooeioogijaaDoor
open Go.RowKit Go.Maps

theorem nine_block {w : World} {b : Nat} {a0 a1 a2 a3 a4 a5 a6 a7 a8 : Value} {T : TypeId} (h : w.heap[b]? = some (.cells #[a0, a1, a2, a3, a4, a5, a6, a7, a8] T (0, 0))) :
    (w.cell? ⟨b, 0, none⟩ = some a0 ∧ w.cell? ⟨b, 1, none⟩ = some a1 ∧ w.cell? ⟨b, 2, none⟩ = some a2 ∧ w.cell? ⟨b, 3, none⟩ = some a3 ∧ w.cell? ⟨b, 4, none⟩ = some a4 ∧ w.cell? ⟨b, 5, none⟩ = some a5 ∧ w.cell? ⟨b, 6, none⟩ = some a6 ∧ w.cell? ⟨b, 7, none⟩ = some a7 ∧ w.cell? ⟨b, 8, none⟩ = some a8) ∧ ∀ j, w.frozen? ⟨b, j, none⟩ = false := by
  refine ⟨⟨?_, ?_, ?_, ?_, ?_, ?_, ?_, ?_, ?_⟩, fun j => ?_⟩ <;> simp [World.cell?, World.frozen?, h]
theorem ResM.fault {B : Nat} {w : World} {rb : Nat} {f : FnU} {vp vb sv ov : Value} {r : ResN} (h : ResM B w rb f vp vb sv ov r) (x c : Int) : ResM B ((w.setCell ⟨rb, 7, none⟩ (.int .i64 x)).setCell ⟨rb, 8, none⟩ (.int .i64 c)) rb f vp vb sv ov ⟨r.slots, r.out, (x, c)⟩ := by
  refine ⟨?_, row_setU (row_setU h.slots _ _ fun e => (h.apart.1 rb e).1 rfl) _ _ fun e => (h.apart.1 rb e).1 rfl, row_setU (row_setU h.out _ _ fun e => h.apart.2 rb e rfl) _ _ fun e => h.apart.2 rb e rfl, h.base, h.apart⟩
  simp [World.setCell, Array.getElem?_modify, h.blk]
set_option maxRecDepth 100000 in
set_option maxHeartbeats 4000000 in
theorem wrong11_ok {B : Nat} {rb : Nat} {f : FnU} {vp vb sv ov : Value} {r : ResN} (x c : Int) (w : World) (h : ResM B w rb f vp vb sv ov r) :
    Calls Tryd.prog 38 #[.pointer (some ⟨rb, 0, none⟩), .int .i64 x, .int .i64 c] w fun e w' => e = .returned (.tuple #[]) ∧ ResM B w' rb f vp vb sv ov (r.wrong x c) ∧ Below B w w' ∧ KeepU w w' (· = rb) ∧ w'.heap.size = w.heap.size := by
  have HR := Lib.hid h
  obtain ⟨⟨k0, k1, k2, k3, k4, k5, k6, k7, k8⟩, kf⟩ := nine_block h.blk
  have kf7 := kf 7
  have kf8 := kf 8
  by_cases h0 : r.fault.2 = 0
  · rw [h0] at k8
    go_enter Tryd.func38, Tryd.ntmps38
    go_wp2_with fail
    refine bodyPost_end (results_none rfl _ _ _) rfl ?_
    refine ⟨rfl, ?_, ((Below.refl B w).setCell (p := ⟨rb, 7, none⟩) HR.out.base _).setCell (p := ⟨rb, 8, none⟩) HR.out.base _, ((KeepU.refl w (· = rb)).set ⟨rb, 7, none⟩ _ rfl).set ⟨rb, 8, none⟩ _ rfl, by simp⟩
    unfold ResN.wrong
    rw [if_pos h0]
    exact HR.out.fault x c
  · have t1 : (r.fault.2 == 0) = false := by simpa using h0
    go_enter Tryd.func38, Tryd.ntmps38
    go_wp2_with fail
    refine bodyPost_end (results_none rfl _ _ _) rfl ?_
    refine ⟨rfl, ?_, Below.refl _ _, KeepU.refl _ _, rfl⟩
    unfold ResN.wrong
    rw [if_neg h0]
    exact HR.out
set_option maxRecDepth 100000 in
set_option maxHeartbeats 4000000 in
theorem within11_ok (p : Option Addr) (w : World) : Calls Tryd.prog 23 #[.pointer p] w fun e w' => e = .returned (.pointer (some ⟨w.heap.size + 2, 0, none⟩)) ∧ ScM w.heap.size w' (w.heap.size + 2) w.heap.size (w.heap.size + 1) (.pointer p) ScN.new ∧ Below w.heap.size w w' ∧ w'.heap.size = w.heap.size + 3 := by
  have hmm := @run_makeMap Tryd.prog
  go_enter Tryd.func23, Tryd.ntmps23
  go_wp2_with fail
  go_ret
  have h1 := ba1 w (.map #[] 0)
  have h2 := ba1 (w.alloc (.map #[] 0)) (.map #[] 0)
  have h3 := ba1 ((w.alloc (.map #[] 0)).alloc (.map #[] 0)) (.cells #[.map (some w.heap.size), .pointer p, .map (some (w.heap.size + 1))] 94)
  have s1 : (w.alloc (.map #[] 0)).heap.size = w.heap.size + 1 := by simp
  have s2 : ((w.alloc (.map #[] 0)).alloc (.map #[] 0)).heap.size = w.heap.size + 2 := by simp
  refine ⟨rfl, ⟨?_, ?_, ?_, ⟨by omega, by omega, by omega⟩, ⟨by omega, by omega, by omega⟩⟩, h1.trans ((h2.mono h1.size).trans (h3.mono (Nat.le_trans h1.size h2.size))), by simp⟩
  · have := heap_alloc_new ((w.alloc (.map #[] 0)).alloc (.map #[] 0)) (.cells #[.map (some w.heap.size), .pointer p, .map (some (w.heap.size + 1))] 94)
    rw [s2] at this
    exact this
  · exact (((mapB_nil (w := w)).below h2).below h3).same fun s => rfl
  · have := (mapN_nil (w := w.alloc (.map #[] 0))).below h3
    rw [s1] at this
    exact this
end Go.Proofs.YtbbaooeioogijaaDoor
namespace Go.Proofs.YtbbaooeioogijaaDoor
open Go.RowKit Go.Maps

/-- a scope of a chain: what it holds -/
theorem ChainM.head {fs : FileN} {P : Nat → Prop} {w : World} {L : List ScN} {p : Value} (h : ChainM fs P w L p) : ∃ c mb mv n p', p = .pointer (some ⟨c, 0, none⟩) ∧ w.heap[c]? = some (.cells #[.map (some mb), p', mv] 94 (0, 0)) ∧ (match L with
    | [] => p' = .pointer none ∧ MapB w mb n fs.look
    | s :: up => MapB w mb n (entB s.ents) ∧ ChainM fs P w up p') := by
  cases L with
  | nil =>
    obtain ⟨c, mb, n, e, _, _, hb, hn⟩ := h
    exact ⟨c, mb, _, n, _, e, hb, rfl, hn⟩
  | cons s up =>
    obtain ⟨c, mb, mt, n, p', e, _, _, hb, hn, hu⟩ := h
    exact ⟨c, mb, _, n, p', e, hb, hn, hu⟩
theorem ChainM.ptr {fs : FileN} {P : Nat → Prop} {w : World} {L : List ScN} {p : Value} (h : ChainM fs P w L p) : ∃ c, p = .pointer (some ⟨c, 0, none⟩) := by
  obtain ⟨c, _, _, _, _, e, _⟩ := h.head
  exact ⟨c, e⟩
def FindEnd (o : Option Bnd) (w : World) (e : Ending) (w' : World) : Prop := e = .returned (.tuple #[bndV (o.getD bnd0), .bool o.isSome]) ∧ Below w.heap.size w w'
/-- where the search stands: a chain, or past its end -/
def FindAt (fs : FileN) (P : Nat → Prop) (n : ByteArray) (o : Option Bnd) (w : World) (m : Nat) (v : Value) : Prop := (∃ L, ChainM fs P w L v ∧ findC fs L n = o ∧ L.length + 1 = m) ∨ (v = .pointer none ∧ o = none ∧ m = 0)
set_option maxRecDepth 100000 in
set_option maxHeartbeats 8000000 in
theorem find11_ok {fs : FileN} {P : Nat → Prop} {L : List ScN} {p : Value} (n : ByteArray) (w : World) (h : ChainM fs P w L p) (hP : ∀ k, P k → k < w.heap.size) (hs : n.size ≤ maxLen) :
    Calls Tryd.prog 39 #[p, .string n] w (FindEnd (findC fs L n) w) := by
  have HC := Lib.hid h
  have HP := Lib.hid hP
  generalize ho : findC fs L n = o at *
  have HO := Lib.hid ho
  clear h hP ho
  have hb0 := ba1 w (.cells #[.int .i64 0, .int .i64 0, .string ⟨#[]⟩] 50)
  have hx := heap_alloc_new w (.cells #[.int .i64 0, .int .i64 0, .string ⟨#[]⟩] 50)
  go_enter Tryd.func39, Tryd.ntmps39
  go_wp2_with fail
  generalize w.alloc (.cells #[.int .i64 0, .int .i64 0, .string ⟨#[]⟩] 50) = w0 at *
  have HB0 := Lib.hid hb0
  have HX := Lib.hid hx
  have HZ := Lib.hid (lt_of_heap hx)
  clear hb0 hx
  go_loopg [0] (L.length + 1) (fun m v0 wy => Hid (FindAt fs P n o wy m v0) ∧ Hid (Below w0.heap.size w0 wy))
  case atStart => exact ⟨Lib.hid (.inl ⟨L, HC.out.keep fun k hk => ⟨HB0.out.block k (HP.out k hk), hk⟩, HO.out, rfl⟩), Lib.hid (Below.refl _ _)⟩
  case round =>
    obtain ⟨HF, HB⟩ := hrel
    obtain ⟨⟨d0, d1, d2⟩, fd⟩ := three_block ((HB.out.block _ HZ.out).trans HX.out)
    have fd0 := fd 0
    have fd1 := fd 1
    have fd2 := fd 2
    have HBw := Lib.hid (HB0.out.trans (HB.out.mono HB0.out.size))
    have HBs := Lib.hid HB0.out.size
    rcases HF.out with ⟨L', hch, hfo, hm⟩ | ⟨rfl, hoe, hm⟩
    · obtain ⟨c, mb, mv, nn, p', rfl, hblk, hrest⟩ := hch.head
      obtain ⟨⟨k0, k1, k2⟩, _⟩ := three_block hblk
      have hcz := lt_of_heap hblk
      obtain ⟨g, hg, hy, hn⟩ : ∃ g : ByteArray → Option Bnd, MapB wr mb nn g ∧ (∀ b, g n = some b → o = some b) ∧ (g n = none → ∃ m', m' < gk ∧ FindAt fs P n o wr m' p') := by
        cases L' with
        | nil =>
          obtain ⟨rfl, hb⟩ := hrest
          rw [findC] at hfo
          exact ⟨_, hb, fun b e => by rw [← hfo, e], fun e => ⟨0, by omega, .inr ⟨rfl, by rw [← hfo, e], rfl⟩⟩⟩
        | cons s up =>
          obtain ⟨hb, hu⟩ := hrest
          rw [findC] at hfo
          exact ⟨_, hb, fun b e => by rw [← hfo, e], fun e => ⟨up.length + 1, by simp at hm; omega, .inl ⟨up, hu, by rw [← hfo, e], rfl⟩⟩⟩
      have hl := hg.look2 hs
      clear hch hrest
      rcases hgn : g n with _ | ⟨qk, qi, qt⟩
      · rw [hgn] at hl
        simp only [Option.getD_none, Option.isSome_none, zeroBV] at hl
        obtain ⟨m', hm', hnx⟩ := hn hgn
        have HN := Lib.hid (show FindAt fs P n o (wr.alloc (.cells #[.int .i64 0, .int .i64 0, .string ⟨#[]⟩] 50)) m' p' from by
          rcases hnx with ⟨L2, h2, h3, h4⟩ | h2
          · exact .inl ⟨L2, h2.keep fun k hk => ⟨(ba1 wr _).block k (Nat.lt_of_lt_of_le (HP.out k hk) HBw.out.size), hk⟩, h3, h4⟩
          · exact .inr h2)
        clear hnx hn hy hg
        go_wp2_with fail
        go_roundg m'
        case measure => exact hm'
        case rel => exact ⟨HN, Lib.hid (HB.out.alloc HB.out.size _)⟩
      · rw [hgn] at hl
        simp only [Option.getD_some, Option.isSome_some, bndV] at hl
        have hoe := hy _ hgn
        subst hoe
        clear hy hn hg
        have hsz : w.heap.size < wr.heap.size := Nat.lt_of_lt_of_le HZ.out HB.out.size
        have hd := (HB.out.block _ HZ.out).trans HX.out
        have h3 : (((wr.setCell ⟨w.heap.size, 0, none⟩ (.int .i64 qk)).setCell ⟨w.heap.size, 1, none⟩ (.int .i64 qi)).setCell ⟨w.heap.size, 2, none⟩ (.string qt)).heap[w.heap.size]? = some (.cells #[.int .i64 qk, .int .i64 qi, .string qt] 50 (0, 0)) := by
          simp [World.setCell, Array.getElem?_modify, hd]
        obtain ⟨⟨e0, e1, e2⟩, _⟩ := three_block (((ba1 _ (.cells #[.int .i64 qk, .int .i64 qi, .string qt] 50)).block _ (lt_of_heap h3)).trans h3)
        clear h3 hd
        go_wp2_with fail
        refine bodyPost_ret (v := .tuple #[bndV ⟨qk, qi, qt⟩, .bool true]) (by simp only [bndV]; simp [results, Tryd.results39, go_sem, e0, e1, e2]) rfl ⟨rfl, ?_⟩
        have hb3 := ((HBw.out.setCell (p := ⟨w.heap.size, 0, none⟩) (Nat.le_refl _) (.int .i64 qk)).setCell (p := ⟨w.heap.size, 1, none⟩) (Nat.le_refl _) (.int .i64 qi)).setCell (p := ⟨w.heap.size, 2, none⟩) (Nat.le_refl _) (.string qt)
        exact hb3.alloc hb3.size _
    · subst hoe
      go_wp2_with fail
      exact bodyPost_ret (v := .tuple #[bndV bnd0, .bool false]) (by simp only [zeroBV]; simp [results, Tryd.results39, go_sem, d0, d1, d2]) rfl ⟨rfl, Below.setCell (Below.setCell (Below.setCell HBw.out (Nat.le_refl _) _) (Nat.le_refl _) _) (Nat.le_refl _) _⟩
end Go.Proofs.YtbbaooeioogijaaDoor
