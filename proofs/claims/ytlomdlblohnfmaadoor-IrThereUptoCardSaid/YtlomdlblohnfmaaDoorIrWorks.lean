/- The law's fixed whole. -/
import Derived.Test.YtlomdlblohnfmaaDoorIrPrint
namespace Go.Proofs.YtlomdlblohnfmaaDoor
open Go.RowKit

theorem small_print (w : World) (hE : IE w) (hk : 0 < w.heap.size) (g ga b : Nat) (hg : g < w.heap.size) (ha : ga < w.heap.size) (hb : b < w.heap.size) (hS : SmallAt w g ga ⟨3, 1, -1, 0, 0⟩)
    (hx : w.heap[b]? = some (.cells #[.string ⟨#[102]⟩, .int .i64 1, .int .i64 2, .slice none 0 0, .slice (some ⟨g, 0, none⟩) 1 1] 35 (0, 0))) :
    Calls Tryd.prog 15 #[.agg #[.slice none 0 0, .slice none 0 0, .slice (some ⟨b, 0, none⟩) 1 1]] w fun e w' => e = .returned (.tuple #[.string ⟨#[102, 117, 110, 99, 32, 102, 32, 49, 32, 50, 10, 98, 108, 111, 99, 107, 10, 114, 49, 32, 61, 32, 99, 111, 110, 115, 116, 32, 53, 10, 114, 49, 32, 61, 32, 97, 100, 100, 32, 114, 48, 32, 114, 49, 10, 114, 101, 116, 117, 114, 110, 32, 114, 49, 10]⟩, .agg #[.int .i64 0, .int .i64 0]]) ∧ Below w.heap.size w w' := by
  have h := print_one smallF (.slice none 0 0) (.slice (some ⟨g, 0, none⟩) 1 1) b w hE hk (small_is hS hg ha) hb hx rfl (fun bl hbl o ho => by
      simp only [smallF, List.mem_cons, List.not_mem_nil, or_false] at hbl
      subst hbl
      simp only [smallOps, List.mem_cons, List.not_mem_nil, or_false] at ho
      rcases ho with rfl | rfl
      · exact ⟨by decide +kernel, by decide, by decide, by constructor <;> decide⟩
      · exact ⟨by decide +kernel, by decide, by decide, by constructor <;> decide⟩) (fun bl hbl => by
      simp only [smallF, List.mem_cons, List.not_mem_nil, or_false] at hbl
      subst hbl
      exact ⟨by constructor <;> decide, by constructor <;> decide, by constructor <;> decide, by constructor <;> decide⟩) (by constructor <;> decide) (by constructor <;> decide) (by decide) small_check (by rw [small_text]; simp) (by rw [small_text]; decide)
  rw [small_text] at h
  exact h
theorem small_turn {w : World} {g ga : Nat} {x y : IrX} (h : SmallAt w g ga x) (hne : ga ≠ g) : SmallAt (((((w.setCell ⟨g, 1, none⟩ (.int .i64 y.kind)).setCell ⟨g, 2, none⟩ (.int .i64 y.a)).setCell ⟨g, 3, none⟩ (.int .i64 y.d)).setCell ⟨g, 4, none⟩ (.int .i64 y.to)).setCell ⟨g, 5, none⟩ (.int .i64 y.els)) g ga y := by
  have h1 := heap_setCell_same w g 1 _ _ (.int .i64 y.kind) h.bl
  have h2 := heap_setCell_same _ g 2 _ _ (.int .i64 y.a) h1
  have h3 := heap_setCell_same _ g 3 _ _ (.int .i64 y.d) h2
  have h4 := heap_setCell_same _ g 4 _ _ (.int .i64 y.to) h3
  have h5 := heap_setCell_same _ g 5 _ _ (.int .i64 y.els) h4
  refine ⟨h5, ?_⟩
  rw [heap_setCell_other _ _ _ _ hne, heap_setCell_other _ _ _ _ hne, heap_setCell_other _ _ _ _ hne, heap_setCell_other _ _ _ _ hne, heap_setCell_other _ _ _ _ hne]
  exact h.op
theorem turn_other {w : World} {g k : Nat} {x : IrX} (h : k ≠ g) : (((((w.setCell ⟨g, 1, none⟩ (.int .i64 x.kind)).setCell ⟨g, 2, none⟩ (.int .i64 x.a)).setCell ⟨g, 3, none⟩ (.int .i64 x.d)).setCell ⟨g, 4, none⟩ (.int .i64 x.to)).setCell ⟨g, 5, none⟩ (.int .i64 x.els)).heap[k]? = w.heap[k]? := by
  rw [heap_setCell_other _ _ _ _ h, heap_setCell_other _ _ _ _ h, heap_setCell_other _ _ _ _ h, heap_setCell_other _ _ _ _ h, heap_setCell_other _ _ _ _ h]
theorem turn_below {B : Nat} {w0 w : World} {g : Nat} {x : IrX} (h : Below B w0 w) (hg : B ≤ g) : Below B w0 (((((w.setCell ⟨g, 1, none⟩ (.int .i64 x.kind)).setCell ⟨g, 2, none⟩ (.int .i64 x.a)).setCell ⟨g, 3, none⟩ (.int .i64 x.d)).setCell ⟨g, 4, none⟩ (.int .i64 x.to)).setCell ⟨g, 5, none⟩ (.int .i64 x.els)) :=
  ((((h.setCell hg _).setCell hg _).setCell hg _).setCell hg _).setCell hg _
theorem six_cells {w : World} {b : Nat} {a0 a1 a2 a3 a4 a5 : Value} {T : TypeId} (h : w.heap[b]? = some (.cells #[a0, a1, a2, a3, a4, a5] T (0, 0))) :
    (w.cell? ⟨b, 0, none⟩ = some a0 ∧ w.cell? ⟨b, 1, none⟩ = some a1 ∧ w.cell? ⟨b, 2, none⟩ = some a2 ∧ w.cell? ⟨b, 3, none⟩ = some a3 ∧ w.cell? ⟨b, 4, none⟩ = some a4 ∧ w.cell? ⟨b, 5, none⟩ = some a5) ∧ (w.frozen? ⟨b, 1, none⟩ = false ∧ w.frozen? ⟨b, 2, none⟩ = false ∧ w.frozen? ⟨b, 3, none⟩ = false ∧ w.frozen? ⟨b, 4, none⟩ = false ∧ w.frozen? ⟨b, 5, none⟩ = false) := by
  refine ⟨⟨?_, ?_, ?_, ?_, ?_, ?_⟩, ?_, ?_, ?_, ?_, ?_⟩ <;> simp [World.cell?, World.frozen?, h]
theorem five_cells {w : World} {b : Nat} {a0 a1 a2 a3 a4 : Value} {T : TypeId} (h : w.heap[b]? = some (.cells #[a0, a1, a2, a3, a4] T (0, 0))) :
    w.cell? ⟨b, 0, none⟩ = some a0 ∧ w.cell? ⟨b, 1, none⟩ = some a1 ∧ w.cell? ⟨b, 2, none⟩ = some a2 ∧ w.cell? ⟨b, 3, none⟩ = some a3 ∧ w.cell? ⟨b, 4, none⟩ = some a4 := by
  refine ⟨?_, ?_, ?_, ?_, ?_⟩ <;> simp [World.cell?, h]
theorem SmallAt.below {w w' : World} {g ga : Nat} {x : IrX} (h : SmallAt w g ga x) (hb : Below w.heap.size w w') : SmallAt w' g ga x :=
  ⟨(hb.block _ (lt_of_heap h.bl)).trans h.bl, (hb.block _ (lt_of_heap h.op)).trans h.op⟩
set_option maxRecDepth 100000 in
set_option maxHeartbeats 8000000 in
theorem works18_ok (w : World) (hE : IE w) (hk : 0 < w.heap.size) : Calls Tryd.prog 5 #[] w fun e w' => e = .returned (.bool true) ∧ Below w.heap.size w w' := by
  have HE := Lib.hid hE
  have HK := Lib.hid hk
  have HB := Lib.hid (show builtV ⟨#[99, 111, 95, 110, 101, 119]⟩ = .tuple #[.int .i64 3, .bool true, .bool true] from by kernel_rfl)
  clear hE hk
  go_enter Tryd.func5, Tryd.ntmps5
  go_upto_region 2 with (first
    | (go_at_call 16; refine (small_ok _).mono ?_; rintro e w1 ⟨⟨g, ga, rfl, _, _, _, hS⟩, hb1⟩;
       have HB1 := Lib.hid hb1;
       have hgl : g < w1.heap.size := lt_of_heap hS.bl;
       have hal : ga < w1.heap.size := lt_of_heap hS.op;
       have HBa := Lib.hid (show Below w1.heap.size w1 (w1.alloc (.cells #[.string ⟨#[102]⟩, .int .i64 1, .int .i64 2, .slice none 0 0, .slice (some ⟨g, 0, none⟩) 1 1] 35)) from (Below.refl _ _).alloc (Nat.le_refl _) _);
       have HPr := Lib.hid (small_print (w1.alloc (.cells #[.string ⟨#[102]⟩, .int .i64 1, .int .i64 2, .slice none 0 0, .slice (some ⟨g, 0, none⟩) 1 1] 35)) (HE.out.below (HB1.out.trans (HBa.out.mono HB1.out.size))) (Nat.lt_of_lt_of_le HK.out (Nat.le_trans HB1.out.size HBa.out.size)) g ga w1.heap.size (by simp; omega) (by simp; omega) (by simp) (hS.below HBa.out) (heap_alloc_new _ _));
       clear hb1 hS)
    | (go_at_call 15; (with_reducible refine HPr.out.mono ?_); rintro e w2 ⟨rfl, hb2⟩; have HB2 := Lib.hid ((HB1.out.trans (HBa.out.mono HB1.out.size)).trans (hb2.mono (Nat.le_trans HB1.out.size HBa.out.size))); clear hb2 HPr))
  have hx3 := heap_alloc_new w2 (.cells #[.int .i64 0, .int .i64 0] 30)
  have HB3 := Lib.hid (HB2.out.trans (((Below.refl w2.heap.size w2).alloc (Nat.le_refl _) (.cells #[.int .i64 0, .int .i64 0] 30)).mono HB2.out.size))
  generalize hr2 : w2.heap.size = r2 at *
  generalize World.alloc w2 _ = w3 at *
  have HX3 := Lib.hid hx3
  clear hx3 hr2 HB1 HBa hgl hal
  go_upto_region 3 with (go_at_call 16; refine (small_ok _).mono ?_; rintro e w4 ⟨⟨g2, ga2, rfl, hg2, ha2, hne2, hS⟩, hb4⟩; have HB4 := Lib.hid hb4; have HS4 := Lib.hid hS; clear hb4 hS)
  have hr3 : r2 < w3.heap.size := lt_of_heap HX3.out
  have hx5 := heap_alloc_new w4 (.cells #[.string ⟨#[102]⟩, .int .i64 1, .int .i64 2, .slice none 0 0, .slice (some ⟨g2, 0, none⟩) 1 1] 35)
  have hb5 : Below w4.heap.size w4 (w4.alloc (.cells #[.string ⟨#[102]⟩, .int .i64 1, .int .i64 2, .slice none 0 0, .slice (some ⟨g2, 0, none⟩) 1 1] 35)) := (Below.refl _ _).alloc (Nat.le_refl _) _
  generalize hr4 : w4.heap.size = r4 at *
  generalize World.alloc w4 _ = w5 at *
  have hw34 := HB4.out.size
  have hw03 := HB3.out.size
  have HB5 := Lib.hid ((HB3.out.trans (HB4.out.mono hw03)).trans (hb5.mono (show w.heap.size ≤ r4 by omega)))
  have HS5 := Lib.hid (HS4.out.below (by rw [hr4]; exact hb5))
  have hr24 : r2 < r4 := by omega
  have hx35 : w5.heap[r2]? = some (.cells #[.int .i64 0, .int .i64 0] 30 (0, 0)) := (hb5.block r2 hr24).trans ((HB4.out.block r2 hr3).trans HX3.out)
  obtain ⟨_, _, _, _, c4⟩ := five_cells hx5
  obtain ⟨⟨s0, s1, s2, s3, s4, s5⟩, z1, z2, z3, z4, z5⟩ := six_cells HS5.out.bl
  go_upto_region 4 with fail
  have HS6 := Lib.hid (small_turn (y := ⟨1, -1, -1, 0, 0⟩) HS5.out hne2)
  have HB6 := Lib.hid (turn_below (x := ⟨1, -1, -1, 0, 0⟩) HB5.out (show w.heap.size ≤ g2 by omega))
  have hg4 : r4 ≠ g2 := fun e => by
    have h1 := HS5.out.bl
    rw [← e, hx5] at h1
    cases h1
  have hx56 := (turn_other (w := w5) (x := ⟨1, -1, -1, 0, 0⟩) hg4).trans hx5
  have hx36 := (turn_other (w := w5) (x := ⟨1, -1, -1, 0, 0⟩) (show r2 ≠ g2 by omega)).trans hx35
  dsimp only at HS6 HB6 hx56 hx36
  generalize World.setCell _ _ _ = w6 at *
  clear s0 s1 s2 s3 s4 s5 z1 z2 z3 z4 z5 c4 hx5 hx35
  obtain ⟨f0, f1, f2, f3, f4⟩ := five_cells hx56
  obtain ⟨e0, e1, _, _⟩ := fault_cells hx36
  have hck := checkFunc_ok smallJ (.slice none 0 0) (.slice (some ⟨g2, 0, none⟩) 1 1) w6 (HE.out.below HB6.out).keys (small_is HS6.out (lt_of_heap HS6.out.bl) (lt_of_heap HS6.out.op))
  rw [smallJ_wrong] at hck
  have HCk := Lib.hid hck
  clear hck
  go_wp2_with (first
    | (go_at_call 17; refine (built_ok _ _).mono ?_; rintro e w7 ⟨rfl, hw7⟩; subst hw7; rw [HB.out])
    | (go_at_call 8; refine HCk.out.mono ?_; rintro e w8 ⟨rfl, hb8⟩; have HB8 := Lib.hid (HB6.out.trans (hb8.mono HB6.out.size)); clear hb8))
  go_ret
  exact ⟨rfl, HB8.out⟩
end Go.Proofs.YtlomdlblohnfmaaDoor

