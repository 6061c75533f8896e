/- A tree is its last node put behind its parts; going over it tells each place once, behind its whole: the law's walk. -/
import Derived.Test.YtkokdafkjjcgoaaGreatDoorMg27
import Derived.Test.YtkokdafkjjcgoaaGreatDoorMg28
import Derived.Test.YtkokdafkjjcgoaaGreatDoorMg29
import Derived.Shelf.RegionOpen
namespace Go.Proofs.YtkokdafkjjcgoaaGreatDoor
open Go.RowKit Go.Shelf

attribute [local go_sem] Oper.semAt_some

theorem one_blkT {w : World} {b : Nat} {v : Value} {T : TypeId} (h : w.heap[b]? = some (.cells #[v] T (0, 0))) : w.cell? ⟨b, 0, none⟩ = some v ∧ w.frozen? ⟨b, 0, none⟩ = false := ⟨(one_blockP h).1, (one_blockP h).2 0⟩
/-- two boxes made at the beginning -/
theorem two_boxes (w : World) (o p : Obj) : ((w.alloc o).alloc p).heap[w.heap.size]? = some o ∧ ((w.alloc o).alloc p).heap[w.heap.size + 1]? = some p ∧ Below w.heap.size w ((w.alloc o).alloc p) ∧ w.heap.size + 2 ≤ ((w.alloc o).alloc p).heap.size := by
  refine ⟨(Below.heap_alloc _ _ _ (by simp)).trans (heap_alloc_new _ _), ?_, (ba1 _ _).alloc (ba1 _ _).size _, by simp⟩
  have := heap_alloc_new (w.alloc o) p
  rwa [World.size_alloc] at this
set_option maxRecDepth 100000 in
set_option maxHeartbeats 4000000 in
theorem treeWhole_n (a : Option Addr) (cap : Nat) (t : List Nd) (w : World) (hE : EnvP w) (hI : IsNds w.heap.size w a t) (hOk : ∀ x ∈ t, NdOk x) (hz : t.length * 64 ≤ 140737488351232) (hs : t.length ≤ 400 → checkN9 t ≠ 0) :
    Calls Tryz.prog 6 #[.slice a t.length cap] w fun e w' => e = .returned (.bool true) ∧ Below w.heap.size w w' := by
  have hkl : (t.length : Int) ≤ 140737488355328 := by omega
  have K1 := Lib.hid (fun w1 (hb : Below w.heap.size w w1) => works9_ok w1 (hE.below hb))
  have K2 := Lib.hid (fun w1 (hb : Below w.heap.size w w1) => treeCheck_ok a cap t w1 (hE.below hb).tp.te ((hI.below hb (Nat.le_refl _)).mono hb.size) hOk hz)
  clear hE hI hOk
  obtain ⟨hx1, hx2, hb0, hz0⟩ := two_boxes w (.cells #[.slice a t.length cap] 23) (.cells #[.bool false] 4)
  refine (callsIn_wide (n := 3)).1 ?_
  refine callsIn_of_wp_marks Tryz.func6 rfl trivial ?_ rfl
  simp only [Tryz.ntmps6, List.size_toArray, List.length_cons, List.length_nil, Nat.reduceAdd, Nat.reduceSub, Array.replicate_succ, Array.replicate_zero, List.push_toArray, List.append_toArray, List.nil_append, List.cons_append]
  gi_wp2
  generalize (w.alloc (.cells #[.slice a t.length cap] 23)).alloc (.cells #[.bool false] 4) = W0 at *
  have HX1 := Lib.hid hx1
  have HX2 := Lib.hid hx2
  have HB0 := Lib.hid hb0
  have L1 := Lib.hid (K1.out W0 hb0)
  clear hx1 hx2 hb0
  refine ⟨trivial, ?_⟩
  refine (callsIn_wide.2 L1.out).mono ?_
  rintro e W1 ⟨rfl, hb⟩
  have HB1 := Lib.hid (HB0.out.trans (hb.mono HB0.out.size))
  have HY1 := Lib.hid ((hb.block w.heap.size (by omega)).trans HX1.out)
  have HY2 := Lib.hid ((hb.block (w.heap.size + 1) (by omega)).trans HX2.out)
  have w0 := (one_blkT HY1.out).1
  obtain ⟨w1, w1f⟩ := one_blkT HY2.out
  have hz1 := hb.size
  clear hb
  by_cases hl : t.length ≤ 400
  · have t1 : decide ((400 : Int) < (t.length : Int)) = false := decide_eq_false (by omega)
    have hc := hs hl
    have t3 : (checkN9 t != 0) = true := by simpa using hc
    have L2 := Lib.hid (K2.out W1 HB1.out)
    generalize checkN9 t = c at *
    clear hc hs
    gi_wp2_with (refine ⟨trivial, ?_⟩; gi_at_call 10; refine (callsIn_wide.2 L2.out).mono ?_; rintro e W2 ⟨rfl, hb⟩; have HB2 := Lib.hid (HB1.out.trans (hb.mono HB1.out.size)); obtain ⟨u1, u1f⟩ := one_blkT ((hb.block (w.heap.size + 1) (by omega)).trans HY2.out); clear hb)
    refine ⟨.bool true, ?_, rfl, ?_⟩
    · have hcz := World.cell?_setCell_same' W2 ⟨w.heap.size + 1, 0, none⟩ (.bool true) (by rw [u1]; rfl)
      simp [results, Tryz.results6, go_sem, hcz]
    · exact HB2.out.setCell (by show w.heap.size ≤ w.heap.size + 1; omega) _
  · have t1 : decide ((400 : Int) < (t.length : Int)) = true := decide_eq_true (by omega)
    clear hs
    gi_wp2
    refine ⟨trivial, ?_⟩
    gi_wp2
    refine ⟨.bool true, ?_, rfl, ?_⟩
    · have hcz := World.cell?_setCell_same' W1 ⟨w.heap.size + 1, 0, none⟩ (.bool true) (by rw [w1]; rfl)
      simp [results, Tryz.results6, go_sem, hcz]
    · exact HB1.out.setCell (by show w.heap.size ≤ w.heap.size + 1; omega) _
end Go.Proofs.YtkokdafkjjcgoaaGreatDoor

