/- What an exit reads and leads to. -/
import Derived.Test.YtlomdlblohnfmaaDoorIrExit
namespace Go.Proofs.YtlomdlblohnfmaaDoor
open Go.RowKit

theorem nums_nil (B : Nat) (w : World) : IsNums B w (.slice none 0 0) [] := ⟨none, 0, rfl, ⟨by decide, fun _ => ⟨rfl, rfl⟩⟩, isSl_nil⟩
theorem nums_block {w : World} {g B : Nat} {T : TypeId} {L : List Int} {cap : Nat} (h : w.heap[g]? = some (.cells (L.map fun n => (.int .i64 n : Value)).toArray T (0, 0))) (hB : g < B) (hl : L.length * 8 ≤ 140737488351232) : IsNums B w (.slice (some ⟨g, 0, none⟩) L.length cap) L := by
  refine ⟨_, _, rfl, ⟨hl, fun e => by cases e⟩, fun _ => ⟨g, 0, rfl, hB, fun i t ht j u hu => ?_⟩⟩
  obtain rfl : j = 0 := by
    have := (List.getElem?_eq_some_iff.1 hu).1
    simp [intCells] at this
    omega
  obtain rfl : Value.int .i64 t = u := by simpa [intCells] using hu
  simp [World.cell?, h, ht]
/-- how Exits ends -/
def ExitsEnd (x : IrX) (w : World) (e : Ending) (w' : World) : Prop := (∃ v1 v2, e = .returned (.tuple #[v1, v2]) ∧ (∀ k, v2.ownBlock = some k → w.heap.size ≤ k) ∧ IsNums w'.heap.size w' v1 (exitsI x).1 ∧ IsNums w'.heap.size w' v2 (exitsI x).2) ∧ Below w.heap.size w w'
theorem exitsEnd {x : IrX} {w w' : World} {v1 v2 : Value} {l1 l2 : List Int} (he : exitsI x = (l1, l2)) (hk : ∀ k, v2.ownBlock = some k → w.heap.size ≤ k) (h1 : IsNums w'.heap.size w' v1 l1) (h2 : IsNums w'.heap.size w' v2 l2) (hb : Below w.heap.size w w') : ExitsEnd x w (.returned (.tuple #[v1, v2])) w' :=
  ⟨⟨v1, v2, rfl, hk, by rw [he]; exact h1, by rw [he]; exact h2⟩, hb⟩
/-- two blocks laid one behind the other, and a third -/
theorem three_new (w : World) (o o2 o3 : Obj) : (((w.alloc o).alloc o2).alloc o3).heap[w.heap.size + 1]? = some o2 ∧ (((w.alloc o).alloc o2).alloc o3).heap[w.heap.size + 1 + 1]? = some o3 ∧ Below w.heap.size w (((w.alloc o).alloc o2).alloc o3) := by
  refine ⟨?_, ?_, (((Below.refl _ _).alloc (Nat.le_refl _) _).alloc (by simp) _).alloc (by simp; omega) _⟩
  · rw [((Below.refl ((w.alloc o).alloc o2).heap.size ((w.alloc o).alloc o2)).alloc (Nat.le_refl _) o3).block _ (by simp)]
    exact ir_new2 w o o2
  · have := heap_alloc_new ((w.alloc o).alloc o2) o3
    simpa using this
theorem two_new (w : World) (o o2 : Obj) : ((w.alloc o).alloc o2).heap[w.heap.size + 1]? = some o2 ∧ Below w.heap.size w ((w.alloc o).alloc o2) :=
  ⟨ir_new2 w o o2, ((Below.refl _ _).alloc (Nat.le_refl _) _).alloc (by simp) _⟩
theorem three_nums (w : World) (o : Obj) (a : Int) (L : List Int) (T : TypeId) (hl : L.length * 8 ≤ 140737488351232) :
    IsNums (((w.alloc o).alloc (.cells #[.int .i64 a] T)).alloc (.cells (L.map fun n => (.int .i64 n : Value)).toArray T)).drew.heap.size (((w.alloc o).alloc (.cells #[.int .i64 a] T)).alloc (.cells (L.map fun n => (.int .i64 n : Value)).toArray T)).drew (.slice (some ⟨w.heap.size + 1, 0, none⟩) 1 1) [a] ∧
    IsNums (((w.alloc o).alloc (.cells #[.int .i64 a] T)).alloc (.cells (L.map fun n => (.int .i64 n : Value)).toArray T)).drew.heap.size (((w.alloc o).alloc (.cells #[.int .i64 a] T)).alloc (.cells (L.map fun n => (.int .i64 n : Value)).toArray T)).drew (.slice (some ⟨w.heap.size + 1 + 1, 0, none⟩) L.length L.length) L ∧
    Below w.heap.size w (((w.alloc o).alloc (.cells #[.int .i64 a] T)).alloc (.cells (L.map fun n => (.int .i64 n : Value)).toArray T)).drew := by
  obtain ⟨h1, h2, hb⟩ := three_new w o (.cells #[.int .i64 a] T) (.cells (L.map fun n => (.int .i64 n : Value)).toArray T)
  exact ⟨nums_block (L := [a]) (T := T) h1 (by simp) (by simp), nums_block h2 (by simp) hl, hb.drew⟩
theorem two_nums (w : World) (o : Obj) (a : Int) (T : TypeId) :
    IsNums ((w.alloc o).alloc (.cells #[.int .i64 a] T)).heap.size ((w.alloc o).alloc (.cells #[.int .i64 a] T)) (.slice (some ⟨w.heap.size + 1, 0, none⟩) 1 1) [a] ∧ Below w.heap.size w ((w.alloc o).alloc (.cells #[.int .i64 a] T)) := by
  obtain ⟨h1, hb⟩ := two_new w o (.cells #[.int .i64 a] T)
  exact ⟨nums_block (L := [a]) (T := T) h1 (by simp) (by simp), hb⟩
set_option maxHeartbeats 1000000 in
theorem exits_ok (x : IrX) (w : World) : Calls Tryd.prog 14 #[exitV x] w (ExitsEnd x w) := by
  by_cases h1 : x.kind = 1
  · have he := Lib.hid (show exitsI x = ([], [x.to]) by unfold exitsI; rw [if_pos h1])
    have k1 : (x.kind == 1) = true := by rw [h1]; rfl
    clear h1
    unfold exitV
    go_enter Tryd.func14, Tryd.ntmps14
    go_wp2_with fail
    go_region_with fail
    go_wp2
    go_ret2
    have h := three_nums w (.cells #[.int .i64 x.kind, .int .i64 x.a, .int .i64 x.d, .int .i64 x.to, .int .i64 x.els] 38) x.a [x.to] 3 (by simp)
    exact exitsEnd (v1 := .slice none 0 0) (v2 := .slice (some ⟨w.heap.size + 1 + 1, 0, none⟩) 1 1) he.out (by simp [Value.ownBlock]; omega) (nums_nil _ _) h.2.1 h.2.2
  have k1 : (x.kind == 1) = false := by simpa using h1
  by_cases h2 : x.kind = 2 ∨ x.kind = 4
  · have he := Lib.hid (show exitsI x = ([x.a], [x.to, x.els]) by unfold exitsI; rw [if_neg h1, if_pos h2])
    rcases h2 with h2 | h2
    · have k2 : (x.kind == 2) = true := by rw [h2]; rfl
      clear h1 h2
      unfold exitV
      go_enter Tryd.func14, Tryd.ntmps14
      go_wp2_with fail
      have h := three_nums w (.cells #[.int .i64 x.kind, .int .i64 x.a, .int .i64 x.d, .int .i64 x.to, .int .i64 x.els] 38) x.a [x.to, x.els] 3 (by simp)
      have H := Lib.hid h
      clear h
      go_region_with fail
      all_goals go_wp2
      all_goals go_ret2
      all_goals exact exitsEnd (v1 := .slice (some ⟨w.heap.size + 1, 0, none⟩) 1 1) (v2 := .slice (some ⟨w.heap.size + 1 + 1, 0, none⟩) 2 2) he.out (by simp [Value.ownBlock]; omega) H.out.1 H.out.2.1 H.out.2.2
    · have k2 : (x.kind == 2) = false := by rw [h2]; rfl
      have k4 : (x.kind == 4) = true := by rw [h2]; rfl
      clear h1 h2
      unfold exitV
      go_enter Tryd.func14, Tryd.ntmps14
      go_wp2_with fail
      have h := three_nums w (.cells #[.int .i64 x.kind, .int .i64 x.a, .int .i64 x.d, .int .i64 x.to, .int .i64 x.els] 38) x.a [x.to, x.els] 3 (by simp)
      have H := Lib.hid h
      clear h
      go_region_with fail
      all_goals go_wp2
      all_goals go_ret2
      all_goals exact exitsEnd (v1 := .slice (some ⟨w.heap.size + 1, 0, none⟩) 1 1) (v2 := .slice (some ⟨w.heap.size + 1 + 1, 0, none⟩) 2 2) he.out (by simp [Value.ownBlock]; omega) H.out.1 H.out.2.1 H.out.2.2
  have k2 : (x.kind == 2) = false := by simp; omega
  have k4 : (x.kind == 4) = false := by simp; omega
  by_cases h3 : x.kind = 3
  · have k3 : (x.kind == 3) = true := by rw [h3]; rfl
    by_cases h4 : 0 ≤ x.a
    · have he := Lib.hid (show exitsI x = ([x.a], []) by unfold exitsI; rw [if_neg h1, if_neg h2, if_pos ⟨h3, h4⟩])
      clear h1 h2 h3
      unfold exitV
      go_enter Tryd.func14, Tryd.ntmps14
      go_wp2_with fail
      go_ret2
      have h := two_nums w (.cells #[.int .i64 x.kind, .int .i64 x.a, .int .i64 x.d, .int .i64 x.to, .int .i64 x.els] 38) x.a 3
      exact exitsEnd (v1 := .slice (some ⟨w.heap.size + 1, 0, none⟩) 1 1) (v2 := .slice none 0 0) he.out (by simp [Value.ownBlock]) h.1 (nums_nil _ _) h.2
    · have he := Lib.hid (show exitsI x = ([], []) by unfold exitsI; rw [if_neg h1, if_neg h2, if_neg (fun h => h4 h.2)])
      clear h1 h2 h3
      unfold exitV
      go_enter Tryd.func14, Tryd.ntmps14
      go_wp2_with fail
      go_ret2
      have h := two_nums w (.cells #[.int .i64 x.kind, .int .i64 x.a, .int .i64 x.d, .int .i64 x.to, .int .i64 x.els] 38) x.a 3
      exact exitsEnd (v1 := .slice none 0 0) (v2 := .slice none 0 0) he.out (by simp [Value.ownBlock]) (nums_nil _ _) (nums_nil _ _) h.2
  · have k3 : (x.kind == 3) = false := by simpa using h3
    have he := Lib.hid (show exitsI x = ([], []) by unfold exitsI; rw [if_neg h1, if_neg h2, if_neg (fun h => h3 h.1)])
    clear h1 h2 h3
    unfold exitV
    go_enter Tryd.func14, Tryd.ntmps14
    go_wp2_with fail
    go_ret2
    have h := two_nums w (.cells #[.int .i64 x.kind, .int .i64 x.a, .int .i64 x.d, .int .i64 x.to, .int .i64 x.els] 38) x.a 3
    exact exitsEnd (v1 := .slice none 0 0) (v2 := .slice none 0 0) he.out (by simp [Value.ownBlock]) (nums_nil _ _) (nums_nil _ _) h.2
end Go.Proofs.YtlomdlblohnfmaaDoor

