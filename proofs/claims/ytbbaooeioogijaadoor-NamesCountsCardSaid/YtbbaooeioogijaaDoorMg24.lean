/- The names of a file handed out: the program. · Going over a tree: the program's walk, whatever a round does. · Any tree is judged, and taken apart, as the document says: the law's walk. · Walk: what is handed back. · Parameters copied: slices.Clone. · Rows of functions of one's own: which blocks their parts lie in. -/
import Derived.Test.YtbbaooeioogijaaDoorFiled
import Derived.RangeFuncNested
import Derived.RangeFuncBound
import Derived.RangeFuncCalls
import Derived.RangeFuncLeaves
import Derived.Shelf.Abstract
import Derived.WalkKit
import Derived.OwnWalkIn
import Derived.TacticsInMore
import Derived.LoopNIn
import Derived.LoopIn
import Derived.Test.YtbbaooeioogijaaDoorMg20
import Derived.Test.YtbbaooeioogijaaDoorMg16
namespace Go.Proofs.YtbbaooeioogijaaDoor
open Go.RowKit Go.Maps

def FileEnd (u : UnU) (w : World) (e : Ending) (w' : World) : Prop := Below w.heap.size w w' ∧ match fileN u with
  | .inl p => e = .returned (.tuple #[.slice none 0 0, .slice none 0 0, .agg #[.int .i64 p.1, .int .i64 p.2]])
  | .inr s => ∃ sv av, e = .returned (.tuple #[sv, av, .agg #[.int .i64 0, .int .i64 0]]) ∧ w'.ownsRow w.heap.size 50 3 sv s.ents.length (s.ents.flatMap fun e => bndCells e.2) ∧ w'.ownsRow w.heap.size 9 1 av s.ents.length (s.ents.map fun e => .string e.1)
theorem globsN_ne : ∀ {L : List GlU} {i : Nat} {s : FileN} {p : Int × Int}, globsN L i s = .inl p → p.2 ≠ 0
  | [], i, s, p, h => by cases h
  | g :: r, i, s, p, h => by
    rw [globsN] at h
    split at h
    · obtain rfl := Sum.inl.inj h
      show (6 : Int) ≠ 0
      decide
    · exact globsN_ne h
theorem funcsN_ne : ∀ {L : List FnU} {s : FileN} {p : Int × Int}, funcsN L s = .inl p → p.2 ≠ 0
  | [], s, p, h => by cases h
  | g :: r, s, p, h => by
    rw [funcsN] at h
    split at h
    · rename_i e
      cases h
      exact oneF_ne e
    · exact funcsN_ne h
theorem fileN_ne {u : UnU} {p : Int × Int} (h : fileN u = .inl p) : p.2 ≠ 0 := by
  unfold fileN at h
  split at h
  · rename_i h1; cases h; exact h1
  · split at h
    · rename_i e; cases h; exact globsN_ne e
    · exact funcsN_ne h
theorem own_move {w w' : World} {A B : Nat} {T : TypeId} {k n : Nat} {v : Value} {xs : List Value} (h : w.ownsRow B T k v n xs) (hA : A ≤ B) (hw : ∀ k, B ≤ k → w'.heap[k]? = w.heap[k]?) : w'.ownsRow A T k v n xs := by
  obtain ⟨h1, h2⟩ := h
  refine ⟨h1, ?_⟩
  rcases h2 with h2 | ⟨g, cap, cur, e, hb, hg, h3⟩
  · exact .inl h2
  · exact .inr ⟨g, cap, cur, e, Nat.le_trans hA hb, (hw g hb).trans hg, h3⟩
theorem FileM.open {A B b mb : Nat} {w : World} {s : FileN} (h : FileM A B w b mb s) : ∃ sv av : Value, (w.cell? ⟨b, 1, none⟩ = some sv ∧ w.cell? ⟨b, 2, none⟩ = some av) ∧ ∀ w' : World, (∀ k, B ≤ k → w'.heap[k]? = w.heap[k]?) → w'.ownsRow A 50 3 sv s.ents.length (s.ents.flatMap fun e => bndCells e.2) ∧ w'.ownsRow A 9 1 av s.ents.length (s.ents.map fun e => .string e.1) := by
  obtain ⟨hA, lv, sv, av, Q, n, hR, _⟩ := h
  exact ⟨sv, av, ⟨hR.cells.1.2.1, hR.cells.1.2.2.1⟩, fun w' hw => ⟨own_move hR.sizes hA hw, own_move hR.aligns hA hw⟩⟩
set_option maxRecDepth 100000 in
set_option maxHeartbeats 8000000 in
theorem file11_ok (u : UnU) (vs vg vf : Value) (w : World) (hE : TE w) (hU : IsUn w.heap.size w u vs vg vf) :
    Calls Tryd.prog 12 #[.agg #[vs, vg, vf]] w (FileEnd u w) := by
  obtain ⟨sa, sc, mv, rfl, _⟩ := hU.structs
  obtain ⟨ag, cg, rfl, _⟩ := glsU_len hU.globals
  obtain ⟨af, cf, rfl, _⟩ := fnsU_len hU.funcs
  go_enter Tryd.func12, Tryd.ntmps12
  go_upto_region 1 with fail
  have hb1 := (ba1 w (.cells #[.slice sa u.structs.length sc, .slice ag u.globals.length cg, .slice af u.funcs.length cf] 26)).alloc (ba1 w (.cells #[.slice sa u.structs.length sc, .slice ag u.globals.length cg, .slice af u.funcs.length cf] 26)).size (.cells #[.int .i64 0, .int .i64 0] 32)
  have hxq : ((w.alloc (.cells #[.slice sa u.structs.length sc, .slice ag u.globals.length cg, .slice af u.funcs.length cf] 26)).alloc (.cells #[.int .i64 0, .int .i64 0] 32)).heap[w.heap.size]? = some (.cells #[.slice sa u.structs.length sc, .slice ag u.globals.length cg, .slice af u.funcs.length cf] 26 (0, 0)) := ((ba1 _ _).block _ (lt_of_heap (heap_alloc_new w _))).trans (heap_alloc_new w _)
  have hxr : ((w.alloc (.cells #[.slice sa u.structs.length sc, .slice ag u.globals.length cg, .slice af u.funcs.length cf] 26)).alloc (.cells #[.int .i64 0, .int .i64 0] 32)).heap[w.heap.size + 1]? = some (.cells #[.int .i64 0, .int .i64 0] 32 (0, 0)) := by
    have := heap_alloc_new (w.alloc (.cells #[.slice sa u.structs.length sc, .slice ag u.globals.length cg, .slice af u.funcs.length cf] 26)) (.cells #[.int .i64 0, .int .i64 0] 32)
    simpa using this
  generalize (w.alloc (.cells #[.slice sa u.structs.length sc, .slice ag u.globals.length cg, .slice af u.funcs.length cf] 26)).alloc (.cells #[.int .i64 0, .int .i64 0] 32) = w1 at *
  have HR := Lib.hid (fun w' (h : Below w1.heap.size w1 w') => two_block ((h.block _ (lt_of_heap hxr)).trans hxr))
  have HB1 := Lib.hid hb1
  have HFd := Lib.hid (filed11_ok u _ _ _ w1 (hE.below hb1) (hU.go hb1))
  obtain ⟨⟨q0, q1, q2⟩, _⟩ := three_block hxq
  unfold FiledEnd at HFd
  have HX := Lib.hid hxr
  clear hxq hxr hU hE
  rcases hf : fileN u with p | s
  · obtain ⟨ux, uc⟩ := p
    rw [hf] at HFd
    simp only at HFd
    have huc : uc ≠ 0 := (fileN_ne hf :)
    have t1 : (uc != 0) = true := by simpa using huc
    go_upto_region 2 with (go_at_call 19; (with_reducible refine HFd.out.mono ?_); rintro e w2 ⟨hb2, rfl⟩; have HB2 := Lib.hid (hb2.alloc hb2.size (.cells #[.int .i64 ux, .int .i64 uc] 32)); have HB1' := Lib.hid hb2; clear hb2)
    obtain ⟨⟨d0, d1⟩, fd⟩ := HR.out _ HB2.out
    have fd0 := fd 0
    have fd1 := fd 1
    obtain ⟨⟨y0, y1⟩, _⟩ := two_block (heap_alloc_new w2 (.cells #[.int .i64 ux, .int .i64 uc] 32))
    clear q0 q1 q2
    generalize w2.alloc (.cells #[.int .i64 ux, .int .i64 uc] 32) = w3 at *
    go_wp2_with fail
    go_region_law (fail)
    all_goals
      go_wp2_with fail
      exact bodyPost_ret (v := .tuple #[.slice none 0 0, .slice none 0 0, .agg #[.int .i64 ux, .int .i64 uc]]) (by simp [results, Tryd.results12, go_sem, d0, d1]) rfl ⟨Below.drew (Below.setCell (Below.setCell (HB1.out.trans (HB2.out.mono HB1.out.size)) (Nat.le_succ _) _) (Nat.le_succ _) _), by rw [hf]⟩
  · rw [hf] at HFd
    simp only at HFd
    go_upto_region 2 with (go_at_call 19; (with_reducible refine HFd.out.mono ?_); rintro e w2 ⟨hb2, B, b, mb, rfl, hwB, hBw, hm2⟩; have HB2 := Lib.hid (hb2.alloc hb2.size (.cells #[.int .i64 0, .int .i64 0] 32)); have HM2 := Lib.hid (hm2.below (ba1 w2 (.cells #[.int .i64 0, .int .i64 0] 32))); clear hb2 hm2 hBw)
    obtain ⟨⟨d0, d1⟩, fd⟩ := HR.out _ HB2.out
    have fd0 := fd 0
    have fd1 := fd 1
    obtain ⟨⟨y0, y1⟩, _⟩ := two_block (heap_alloc_new w2 (.cells #[.int .i64 0, .int .i64 0] 32))
    obtain ⟨sv, av, ⟨k1, k2⟩, hsv⟩ := HM2.out.open
    have HSv := Lib.hid hsv
    have HLo := Lib.hid (Nat.lt_of_lt_of_le (lt_of_heap (HX.out)) hwB)
    clear q0 q1 q2 hsv
    generalize w2.alloc (.cells #[.int .i64 0, .int .i64 0] 32) = w3 at *
    go_wp2_with fail
    go_region_law (fail)
    all_goals
      go_wp2_with fail
      have hrows := HSv.out ((w3.setCell ⟨w.heap.size + 1, 0, none⟩ (.int .i64 0)).setCell ⟨w.heap.size + 1, 1, none⟩ (.int .i64 0)).drew (fun k hk => by
        have h1 := HLo.out
        have hne : k ≠ w.heap.size + 1 := by omega
        show ((w3.setCell ⟨w.heap.size + 1, 0, none⟩ (.int .i64 0)).setCell ⟨w.heap.size + 1, 1, none⟩ (.int .i64 0)).heap[k]? = _
        rw [Below.heap_setCell _ _ _ _ hne, Below.heap_setCell _ _ _ _ hne])
      refine bodyPost_ret (v := .tuple #[sv, av, .agg #[.int .i64 0, .int .i64 0]]) (by simp [results, Tryd.results12, go_sem, d0, d1]) rfl ⟨Below.drew (Below.setCell (Below.setCell (HB1.out.trans (HB2.out.mono HB1.out.size)) (Nat.le_succ _) _) (Nat.le_succ _) _), ?_⟩
      rw [hf]
      exact ⟨sv, av, rfl, own_move hrows.1 HB1.out.size (fun _ _ => rfl), own_move hrows.2 HB1.out.size (fun _ _ => rfl)⟩
end Go.Proofs.YtbbaooeioogijaaDoor
namespace Go.Proofs.YtbbaooeioogijaaDoor
open Go.RowKit Go.Shelf

attribute [local go_sem] Oper.semAt_some

theorem grown_none {W W' : World} (h : Below W.heap.size W W') : W.grownBy W' none := ⟨h.os, h.tape, h.output, h.size, fun k hk _ => h.block k hk⟩
theorem abides_below {β : Type} {B : Nat} {J : β → World → Prop} (h : AbidesFrom B J) {s : β} {W W' : World} (hs : J s W) (hb : Below W.heap.size W W') : J s W' := h s W W' none hs (grown_none hb) (fun _ e => by cases e)
/-- numbers of one's own lie in a block that was not there -/
theorem nat_far_any {w : World} {base : Nat} {v : Value} {L : List Nat} (h : NatRow w base v L) : ∀ (g off n cap : Nat), v = .slice (some ⟨g, off, none⟩) n cap → L.length ≠ 0 → base ≤ g := fun g off n cap hv hn => by
  obtain ⟨g2, cap2, hv2, hb, _⟩ := h.far (fun e => hn (by rw [e]; rfl))
  rw [hv] at hv2
  simp only [Value.slice.injEq, Option.some.injEq, Addr.mk.injEq] at hv2
  omega
/-- a place in a tree, and how deep it is -/
abbrev Elt (t : List Nd) : Type := { x : Nat × Nat // x.1 < t.length }
def eltV {t : List Nd} (x : Elt t) : Array Value := #[.int .i64 (x.1.1 : Int), .int .i64 (x.1.2 : Int)]
def elts {t : List Nd} (l : List (Elt t)) : List (Nat × Nat) := l.map Subtype.val
theorem elts_app {t : List Nd} (l m : List (Elt t)) : elts (l ++ m) = elts l ++ elts m := List.map_append
theorem elts_len {t : List Nd} (l : List (Elt t)) : (elts l).length = l.length := List.length_map ..
/-- what has come when i parts are over -/
def doneF (t : List Nd) (fr P : List Nat) (d i : Nat) : List (Nat × Nat) := (P.take i).flatMap fun p => walkN t fr p d
theorem done_next {t : List Nd} {fr P : List Nat} {d i : Nat} (hi : i < P.length) : doneF t fr P d (i + 1) = doneF t fr P d i ++ walkN t fr P[i] d := by
  unfold doneF
  rw [List.take_succ_eq_append_getElem hi, List.flatMap_append]
  simp
theorem done_all {t : List Nd} {fr P : List Nat} {d : Nat} : doneF t fr P d P.length = P.flatMap fun p => walkN t fr p d := by unfold doneF; rw [List.take_length]
theorem done_pre {t : List Nd} {fr P : List Nat} {d i : Nat} : doneF t fr P d i <+: P.flatMap fun p => walkN t fr p d := by
  unfold doneF
  conv => rhs; rw [← List.take_append_drop i P, List.flatMap_append]
  exact List.prefix_append ..
/-- all places of a tree -/
def wholeL (t : List Nd) (fr : List Nat) : List (Nat × Nat) := walkN t fr (t.length - 1) 1
end Go.Proofs.YtbbaooeioogijaaDoor
namespace Go.Proofs.YtbbaooeioogijaaDoor
open Go.RowKit

theorem NdRow.opened {w : World} {base : Nat} {v : Value} {L : List Nd} (h : NdRow w base v L) : ∃ a cap, v = .slice a L.length cap ∧ L.length ≤ cap ∧ cap ≤ maxLen ∧ IsNds w.heap.size w a L ∧ (a = none → L = [] ∧ cap = 0) := by
  obtain ⟨a, cap, hv, hN, hn⟩ := own_sl nd_len h rfl
  refine ⟨a, cap, hv, ?_, ?_, hN, hn⟩
  · rcases h.2 with ⟨e, h0⟩ | ⟨g, c, cur, e, _, _, h1, _⟩
    · omega
    · rw [hv] at e; simp only [Value.slice.injEq] at e; omega
  · rcases h.2 with ⟨e, h0⟩ | ⟨g, c, cur, e, _, _, _, h1, _⟩
    · rw [hv] at e; simp only [Value.slice.injEq] at e; rw [e.2.2]; exact Nat.zero_le _
    · rw [hv] at e; simp only [Value.slice.injEq] at e; rw [e.2.2]; exact h1
end Go.Proofs.YtbbaooeioogijaaDoor
namespace Go.Proofs.YtbbaooeioogijaaDoor
open Go.RowKit

set_option maxRecDepth 100000 in
set_option maxHeartbeats 4000000 in
theorem clone_some (ad : Addr) (cap : Nat) (t : List Nd) (w : World) (hI : IsNds w.heap.size w (some ad) t) (hz : t.length * 64 ≤ 140737488351232) :
    Calls Tryd.prog 33 #[.slice (some ad) t.length cap] w fun e w' => (∃ v, e = .returned v ∧ NdRow w' w.heap.size v t) ∧ Below w.heap.size w w' := by
  obtain ⟨i0, hi, hz0, hz1, hz2⟩ := info_parts infoNd
  have HI0 := Lib.hid (And.intro hi (And.intro hz0 (And.intro hz1 hz2)))
  clear hi hz0 hz1 hz2
  have HI := Lib.hid hI
  have HL := Lib.hid (flat_len nd_len t)
  clear hI
  have hnl := fun wx => Lib.run_eql_slice_nil (P := Tryd.prog) wx 42 48 (some ad) t.length cap 0 0 Tryd.underlying42
  simp only [Option.isNone_some] at hnl
  go_enter Tryd.func33, Tryd.ntmps33
  go_wp2_with (at_builtin; go_loud (refine wpList_append_own _ rfl _ _ _ rfl w.heap.size 48 i0 _ 6 64 Tryd.underlying42 HI0.out.1 HI0.out.2.1 HI0.out.2.2.1 HI0.out.2.2.2 rfl (by decide) _ 0 [] rfl (nil_row _ (Nat.le_refl _)) ad t.length cap (t.flatMap ndCells) rfl HL.out (sl_news nd_len (HI.out.below (ba1 _ _) (Nat.le_refl _))) (nd_one t) (by unfold maxLen; omega) (by omega) (ba1 _ _).size ?_))
  intro v' w' hown hgrow _
  go_wp2_with fail
  go_ret
  refine ⟨⟨v', rfl, by unfold NdRow; simpa using hown⟩, (ba1 _ _).grown hgrow (ba1 _ _).size (fun k hk => by simp [Value.ownBlock] at hk; omega)⟩
set_option maxRecDepth 100000 in
set_option maxHeartbeats 4000000 in
theorem clone_any (a : Option Addr) (cap : Nat) (t : List Nd) (w : World) (hI : IsNds w.heap.size w a t) (hz : t.length * 64 ≤ 140737488351232) (hnil : a = none → t = [] ∧ cap = 0) :
    Calls Tryd.prog 33 #[.slice a t.length cap] w fun e w' => (∃ v, e = .returned v ∧ NdRow w' w.heap.size v t) ∧ Below w.heap.size w w' := by
  cases a with
  | none =>
    obtain ⟨rfl, rfl⟩ := hnil rfl
    clear hI hnil hz
    have hnl := fun wx => Lib.run_eql_slice_nil (P := Tryd.prog) wx 42 48 none 0 0 0 0 Tryd.underlying42
    simp only [Option.isNone_none] at hnl
    go_enter Tryd.func33, Tryd.ntmps33
    go_wp2_with fail
    go_ret
    exact ⟨⟨_, rfl, nd_nil _ _⟩, Below.refl _ _⟩
  | some ad => exact clone_some ad cap t w hI hz

/-- what Walk's answer leans on: its box; the tree of its own, and where its parts begin; all in blocks from B on -/
def SeqAt (t : List Nd) (fr : List Nat) (B : Nat) (W : World) (bw : Nat) : Prop :=
  ∃ (a : Option Addr) (c : Nat) (b : Option Addr) (capb : Nat), B ≤ bw ∧ W.heap[bw]? = some (.cells #[.slice a t.length c, .slice b fr.length capb] 105 (0, 0)) ∧ IsNds W.heap.size W a t ∧ IsNats W.heap.size W b fr ∧ (∀ g off, a = some ⟨g, off, none⟩ → B ≤ g) ∧ ∀ g off, b = some ⟨g, off, none⟩ → B ≤ g
theorem NdRow.far {w : World} {base : Nat} {v : Value} {L : List Nd} (h : NdRow w base v L) : ∀ (g off n cap : Nat), v = .slice (some ⟨g, off, none⟩) n cap → base ≤ g := fun g off n cap hv => by
  subst hv
  exact (World.ownsRow.lt h g rfl).1
section
variable (a : Option Addr) (cap : Nat) (t : List Nd) (w : World) (hE : TE w) (hI : IsNds w.heap.size w a t) (hOk : ∀ x ∈ t, NdOk x) (hz : t.length * 64 ≤ 140737488351232) (hnil : a = none → t = [] ∧ cap = 0)
include hE hI hOk hz hnil
set_option maxHeartbeats 4000000 in
theorem treeWalk_0 (h : checkN9 t = 0) : Calls Tryd.prog 21 #[.slice a t.length cap] w fun e w' => (∃ (bw : Nat) (fr : List Nat), e = .returned (.tuple #[.func (.func 35) #[] #[.pointer (some ⟨bw, 0, none⟩)], .int .i64 0]) ∧ beginsN t = some fr ∧ Given t fr ∧ SeqAt t fr w.heap.size w' bw) ∧ Below w.heap.size w w' := by
  have HCl := Lib.hid (clone_any a cap t w hI hz hnil)
  have HL := Lib.hid (fun a1 c1 w1 (hE : TE w1) (hI : IsNds w1.heap.size w1 a1 t) => looked_0 a1 c1 t w1 hE hI hOk hz h)
  have HE := Lib.hid hE
  clear hE hI hOk hnil h
  go_enter Tryd.func21, Tryd.ntmps21
  go_wp2_with (first | (go_at_call 33; (with_reducible refine HCl.out.mono ?_); rintro e w1 ⟨⟨v, rfl, hr⟩, hb1⟩; obtain ⟨a1, c1, rfl, _, _, hN, _⟩ := hr.opened; have HN := Lib.hid hN; have HFr := Lib.hid hr.far; have HB1 := Lib.hid hb1; have HL1 := Lib.hid (HL.out a1 c1 w1 (HE.out.below hb1) hN); clear hr hN hb1) | (go_at_call 34; (with_reducible refine HL1.out.mono ?_); rintro e w2 ⟨⟨b, capb, fr, rfl, hbe, hG, hW, hf⟩, hb2⟩; have HBe := Lib.hid hbe; have HG := Lib.hid hG; have HW := Lib.hid hW; have HF := Lib.hid hf; have HB2 := Lib.hid (HB1.out.trans (hb2.mono HB1.out.size)); clear hbe hG hW hf hb2))
  go_ret2
  have hb3 := ba1 w2 (.cells #[.slice a1 t.length c1, .slice b fr.length capb] 105)
  have hW3 := HW.out.below hb3
  exact ⟨⟨_, fr, rfl, HBe.out, HG.out, a1, c1, b, capb, HB2.out.size, heap_alloc_new _ _, hW3.nds, hW3.nats, fun g off e => HFr.out g off _ _ (by rw [e]), fun g off e => Nat.le_trans HB1.out.size (HF.out g off e)⟩, HB2.out.trans (hb3.mono HB2.out.size)⟩
end
end Go.Proofs.YtbbaooeioogijaaDoor
namespace Go.Proofs.YtbbaooeioogijaaDoor
open Go.RowKit

def VrRow (w : World) (base : Nat) (v : Value) (t : List VrU) : Prop := w.ownsRow base 46 3 v t.length (t.flatMap vrCells)
theorem infoVr : (Tryd.prog.info? 46).map (fun i => (i.zero, i.size, i.bytes)) = some (some (.agg #[.string ⟨#[]⟩, .string ⟨#[]⟩, .bool false]), 3, 40) := by kernel_rfl
theorem nil_vrow (w : World) {base : Nat} (hb : base ≤ w.heap.size) : (w.alloc (.cells #[] 46)).ownsRow base 46 3 (.slice (some ⟨w.heap.size, 0, none⟩) 0 0) 0 [] := World.ownsRow_lit w #[] 0 hb (by decide) rfl
theorem vr_one (t : List VrU) : ∀ u ∈ t.flatMap vrCells, u.oneCell' = true := fun u hu => by
  obtain ⟨x, _, hx⟩ := List.mem_flatMap.1 hu
  simp only [vrCells, List.mem_cons, List.not_mem_nil, or_false] at hx
  rcases hx with rfl | rfl | rfl <;> rfl
set_option maxRecDepth 100000 in
set_option maxHeartbeats 4000000 in
theorem cloneV_some (ad : Addr) (cap : Nat) (t : List VrU) (w : World) (hI : IsSl 3 vrCells w.heap.size w (some ad) t) (hz : t.length * 40 ≤ 140737488351232) :
    Calls Tryd.prog 32 #[.slice (some ad) t.length cap] w fun e w' => (∃ v, e = .returned v ∧ VrRow w' w.heap.size v t) ∧ Below w.heap.size w w' := by
  obtain ⟨i0, hi, hz0, hz1, hz2⟩ := info_parts infoVr
  have HI0 := Lib.hid (And.intro hi (And.intro hz0 (And.intro hz1 hz2)))
  clear hi hz0 hz1 hz2
  have HI := Lib.hid hI
  have HL := Lib.hid (flat_len vr_len t)
  clear hI
  have hnl := fun wx => Lib.run_eql_slice_nil (P := Tryd.prog) wx 40 46 (some ad) t.length cap 0 0 Tryd.underlying40
  simp only [Option.isNone_some] at hnl
  go_enter Tryd.func32, Tryd.ntmps32
  go_wp2_with (at_builtin; go_loud (refine wpList_append_own _ rfl _ _ _ rfl w.heap.size 46 i0 _ 3 40 Tryd.underlying40 HI0.out.1 HI0.out.2.1 HI0.out.2.2.1 HI0.out.2.2.2 rfl (by decide) _ 0 [] rfl (nil_vrow _ (Nat.le_refl _)) ad t.length cap (t.flatMap vrCells) rfl HL.out (sl_news vr_len (HI.out.below (ba1 _ _) (Nat.le_refl _))) (vr_one t) (by unfold maxLen; omega) (by omega) (ba1 _ _).size ?_))
  intro v' w' hown hgrow _
  go_wp2_with fail
  go_ret
  refine ⟨⟨v', rfl, by unfold VrRow; simpa using hown⟩, (ba1 _ _).grown hgrow (ba1 _ _).size (fun k hk => by simp [Value.ownBlock] at hk; omega)⟩
set_option maxRecDepth 100000 in
set_option maxHeartbeats 4000000 in
theorem cloneV_any (a : Option Addr) (cap : Nat) (t : List VrU) (w : World) (hI : IsSl 3 vrCells w.heap.size w a t) (hz : t.length * 40 ≤ 140737488351232) (hnil : a = none → t = [] ∧ cap = 0) :
    Calls Tryd.prog 32 #[.slice a t.length cap] w fun e w' => (∃ v, e = .returned v ∧ VrRow w' w.heap.size v t) ∧ Below w.heap.size w w' := by
  cases a with
  | none =>
    obtain ⟨rfl, rfl⟩ := hnil rfl
    clear hI hnil hz
    have hnl := fun wx => Lib.run_eql_slice_nil (P := Tryd.prog) wx 40 46 none 0 0 0 0 Tryd.underlying40
    simp only [Option.isNone_none] at hnl
    go_enter Tryd.func32, Tryd.ntmps32
    go_wp2_with fail
    go_ret
    exact ⟨⟨_, rfl, rfl, .inl ⟨rfl, rfl⟩⟩, Below.refl _ _⟩
  | some ad => exact cloneV_some ad cap t w hI hz
end Go.Proofs.YtbbaooeioogijaaDoor
namespace Go.Proofs.YtbbaooeioogijaaDoor
open Go.RowKit

theorem cell_sameU {w w' : World} {b : Nat} (h : w'.heap[b]? = w.heap[b]?) (j : Nat) : w'.cell? ⟨b, j, none⟩ = w.cell? ⟨b, j, none⟩ := by
  unfold World.cell?
  simp only [h]
/-- elements that lie in a block of P -/
def IsSlU {α : Type} (k : Nat) (cells : α → List Value) (P : Nat → Prop) (w : World) (a : Option Addr) (L : List α) : Prop :=
  L ≠ [] → ∃ b off, a = some ⟨b, off, none⟩ ∧ P b ∧ ∀ (i : Nat) t, L[i]? = some t → ∀ (j : Nat) u, (cells t)[j]? = some u → w.cell? ⟨b, off + i * k + j, none⟩ = some u
/-- blocks of P lie in w' as in w, and are of P' -/
def KeepPU (P P' : Nat → Prop) (w w' : World) : Prop := ∀ b, P b → w'.heap[b]? = w.heap[b]? ∧ P' b
theorem IsSlU.keep {α : Type} {k : Nat} {cells : α → List Value} {P P' : Nat → Prop} {w w' : World} {a : Option Addr} {L : List α} (h : IsSlU k cells P w a L) (hk : KeepPU P P' w w') : IsSlU k cells P' w' a L := fun hn => by
  obtain ⟨b, off, e, hp, hc⟩ := h hn
  exact ⟨b, off, e, (hk b hp).2, fun i t ht j u hu => by rw [cell_sameU (hk b hp).1]; exact hc i t ht j u hu⟩
theorem IsSlU.sl {α : Type} {k : Nat} {cells : α → List Value} {P : Nat → Prop} {w : World} {a : Option Addr} {L : List α} {B : Nat} (h : IsSlU k cells P w a L) (hP : ∀ b, P b → b < B) : IsSl k cells B w a L := fun hn => by
  obtain ⟨b, off, e, hp, hc⟩ := h hn
  exact ⟨b, off, e, hP b hp, hc⟩
theorem own_slU {α : Type} {k : Nat} {cells : α → List Value} (hk : ∀ a, (cells a).length = k) {w : World} {base n : Nat} {T : TypeId} {v : Value} {L : List α} (h : w.ownsRow base T k v n (L.flatMap cells)) (hn : n = L.length) : ∃ a cap, v = .slice a L.length cap ∧ L.length ≤ cap ∧ cap ≤ maxLen ∧ IsSlU k cells (fun b => v.ownBlock = some b ∧ base ≤ b ∧ b < w.heap.size) w a L ∧ (a = none → L.length = 0 ∧ cap = 0) := by
  subst hn
  rcases h.2 with ⟨rfl, h0⟩ | ⟨g, cap, cur, rfl, hb, hg, hn, hc, _⟩
  · refine ⟨none, 0, by rw [h0], by omega, by decide, fun hne => absurd (List.eq_nil_of_length_eq_zero h0) hne, fun _ => ⟨h0, rfl⟩⟩
  · exact ⟨_, cap, rfl, hn, hc, fun hne => ⟨g, 0, rfl, ⟨rfl, hb, lt_of_heap hg⟩, fun i t ht j u hu => by rw [Nat.zero_add]; exact own_cell hk h ht hu⟩, fun e => by cases e⟩
/-- what is made new: from B on, what is not v's own block -/
abbrev OffU (B : Nat) (w : World) (v : Value) : Nat → Prop := fun b => B ≤ b ∧ b < w.heap.size ∧ v.ownBlock ≠ some b
theorem keep_offU {B : Nat} {w w' : World} {v : Value} {row : Option Nat} (hg : w.grownBy w' row) (hr : ∀ r, row = some r → r < B ∨ v.ownBlock = some r) : KeepPU (OffU B w v) (OffU B w' v) w w' := fun b ⟨h1, h2, h3⟩ =>
  ⟨hg.block b h2 (fun e => by rcases hr b e.symm with h | h; omega; exact h3 h), h1, Nat.lt_of_lt_of_le h2 hg.size, h3⟩
theorem keep_pushU {B : Nat} {w w' : World} {v v' : Value} (hg : w.grownBy w' v.ownBlock) (hv : ∀ g, v'.ownBlock = some g → v.ownBlock = some g ∨ g = w.heap.size) : KeepPU (OffU B w v) (OffU B w' v') w w' := fun b ⟨h1, h2, h3⟩ =>
  ⟨hg.block b h2 (fun e => h3 e.symm), h1, Nat.lt_of_lt_of_le h2 hg.size, fun e => by
    rcases hv b e with h | h
    · exact h3 h
    · omega⟩
theorem grn_blwU {w w' : World} (row : Option Nat) (hb : Below w.heap.size w w') : w.grownBy w' row := ⟨hb.os, hb.tape, hb.output, hb.size, fun k hk _ => hb.block k hk⟩
/-- a function whose parts lie in blocks of P -/
structure FnPU (P : Nat → Prop) (w : World) (q : FnU × Value × Value) : Prop where
  name : q.1.name.size ≤ maxLen
  type : q.1.type.size ≤ maxLen
  at_ : i64In q.1.at_
  params : ∃ a cap, q.2.1 = .slice a q.1.params.length cap ∧ SlK 40 a q.1.params.length cap ∧ IsSlU 3 vrCells P w a q.1.params ∧ ∀ x ∈ q.1.params, VrOk x
  body : ∃ a cap, q.2.2 = .slice a q.1.body.length cap ∧ SlK 64 a q.1.body.length cap ∧ IsSlU 6 ndCells P w a q.1.body ∧ ∀ x ∈ q.1.body, NdOk x
theorem FnPU.keep {P P' : Nat → Prop} {w w' : World} {q : FnU × Value × Value} (h : FnPU P w q) (hk : KeepPU P P' w w') : FnPU P' w' q := by
  obtain ⟨a, cap, e, ho, hs, hv⟩ := h.params
  obtain ⟨a2, cap2, e2, ho2, hs2, hv2⟩ := h.body
  exact ⟨h.name, h.type, h.at_, ⟨a, cap, e, ho, hs.keep hk, hv⟩, ⟨a2, cap2, e2, ho2, hs2.keep hk, hv2⟩⟩
theorem FnPU.is {P : Nat → Prop} {w : World} {q : FnU × Value × Value} {B : Nat} (h : FnPU P w q) (hP : ∀ b, P b → b < B) : IsFnU B w q.1 q.2.1 q.2.2 := by
  obtain ⟨a, cap, e, ho, hs, hv⟩ := h.params
  obtain ⟨a2, cap2, e2, ho2, hs2, hv2⟩ := h.body
  exact ⟨h.name, h.type, h.at_, ⟨a, cap, e, ho, hs.sl hP, hv⟩, ⟨a2, cap2, e2, ho2, hs2.sl hP, hv2⟩⟩
/-- a row of functions of one's own, each with parts of its own -/
def FnsOwn (B : Nat) (w : World) (v : Value) (Q : List (FnU × Value × Value)) : Prop := w.ownsRow B 44 5 v Q.length (Q.flatMap fnUCells) ∧ ∀ q ∈ Q, FnPU (OffU B w v) w q
theorem fnsOwn_nil (B : Nat) (w : World) : FnsOwn B w (.slice none 0 0) [] := ⟨World.ownsRow_nil _ _ _ _, fun _ h => by cases h⟩
theorem FnsOwn.below {B : Nat} {w w' : World} {v : Value} {Q : List (FnU × Value × Value)} (h : FnsOwn B w v Q) (hb : Below w.heap.size w w') : FnsOwn B w' v Q :=
  ⟨h.1.belowed hb, fun q hq => (h.2 q hq).keep (keep_offU (grn_blwU none hb) (fun r e => by cases e))⟩
theorem FnsOwn.push {B : Nat} {w w' : World} {v : Value} {i g cap : Nat} {Q : List (FnU × Value × Value)} {q : FnU × Value × Value} (h : FnsOwn B w v Q) (hq : FnPU (OffU B w v) w q) (hi : Q.length = i)
    (hown : w'.ownsRow B 44 5 (.slice (some ⟨g, 0, none⟩) (i + 1) cap) (i + 1) (Q.flatMap fnUCells ++ fnUCells q)) (hg : w.grownBy w' v.ownBlock) (hv : v.ownBlock = some g ∨ g = w.heap.size) : FnsOwn B w' (.slice (some ⟨g, 0, none⟩) (i + 1) cap) (Q ++ [q]) := by
  have hkp : KeepPU (OffU B w v) (OffU B w' (.slice (some ⟨g, 0, none⟩) (i + 1) cap)) w w' := keep_pushU hg (fun g' e => by cases e; exact hv)
  refine ⟨?_, fun x hx => ?_⟩
  · rw [List.length_append, List.flatMap_append, hi]
    simpa using hown
  · rcases List.mem_append.1 hx with hx | hx
    · exact (h.2 x hx).keep hkp
    · rw [List.mem_singleton.1 hx]
      exact hq.keep hkp
end Go.Proofs.YtbbaooeioogijaaDoor
