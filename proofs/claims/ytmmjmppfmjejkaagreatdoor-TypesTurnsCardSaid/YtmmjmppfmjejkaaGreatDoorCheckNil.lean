/- What is wrong with a type, no structs being given: the program. -/
import Derived.Test.YtmmjmppfmjejkaaGreatDoorCheck
namespace Go.Proofs.YtmmjmppfmjejkaaGreatDoor
open Go.RowKit Go.Maps

theorem names_nil {w : World} : NamesAt (w.alloc (.map #[] 0)) w.heap.size [] :=
  ⟨.map [], World.ownsMap_made _ _ _ _, fun _ => ⟨rfl, rfl⟩⟩
theorem knAt_nil {B : Nat} {w : World} {b mb : Nat} (hblk : w.heap[b]? = some (.cells #[.slice none 0 0, .map (some mb), .slice none 0 0, .slice none 0 0] 82 (0, 0))) (hb : B ≤ b ∧ B ≤ mb ∧ b ≠ mb) (hn : NamesAt w mb []) :
    KnAt B w b mb (.slice none 0 0) (.slice none 0 0) (.slice none 0 0) [] [] :=
  ⟨hblk, hb, hn, World.ownsRow_nil _ _ _ _, World.ownsRow_nil _ _ _ _, World.ownsRow_nil _ _ _ _, rfl, fun k => ⟨(fun h => by cases h), (fun h => by cases h), (fun h => by cases h)⟩⟩
theorem fitK_nil : FitK [] := ⟨by decide, fun k h => by cases h⟩

theorem two_block {w : World} {b : Nat} {a0 a1 : Value} {T : TypeId} (h : w.heap[b]? = some (.cells #[a0, a1] T (0, 0))) :
    (w.cell? ⟨b, 0, none⟩ = some a0 ∧ w.cell? ⟨b, 1, none⟩ = some a1) ∧ ∀ j, w.frozen? ⟨b, j, none⟩ = false := by
  refine ⟨⟨?_, ?_⟩, fun j => ?_⟩
  · simp [World.cell?, h]
  · simp [World.cell?, h]
  · simp [World.frozen?, h]
theorem set_fault {w0 w : World} (h : Below w0.heap.size w0 w) (v v' : Value) : Below w0.heap.size w0 ((w.setCell ⟨w0.heap.size, 0, none⟩ v).setCell ⟨w0.heap.size, 1, none⟩ v') :=
  (h.setCell (Nat.le_refl _) _).setCell (Nat.le_refl _) _
theorem NamesAt.other {w : World} {b : Nat} {K : List Kn} (h : NamesAt w b K) (a : Addr) (ha : b ≠ a.block) (v : Value) : NamesAt (w.setCell a v) b K := by
  obtain ⟨D, hD, hv⟩ := h
  exact ⟨D, hD.setCell ha v, hv⟩
/-- the world that learn leaves when no structs are given -/
def learntW (w : World) : World := ((w.alloc (.cells #[.int .i64 0, .int .i64 0] 27)).alloc (.map #[] 0)).alloc (.cells #[.slice none 0 0, .map (some (w.heap.size + 1)), .slice none 0 0, .slice none 0 0] 82)
theorem learntW_eq (w : World) : ((w.alloc (.cells #[.int .i64 0, .int .i64 0] 27)).alloc (.map #[] 0)).alloc (.cells #[.slice none 0 0, .map (some (w.heap.size + 1)), .slice none 0 0, .slice none 0 0] 82) = learntW w := rfl
theorem learntW_size (w : World) : (learntW w).heap.size = w.heap.size + 3 := by simp [learntW]
theorem learntW_below (w : World) : Below w.heap.size w (learntW w) :=
  (((Below.refl _ _).alloc (Nat.le_refl _) _).alloc (by simp) _).alloc (by simp; omega) _
theorem learntW_at (w : World) : (learntW w).heap[w.heap.size]? = some (.cells #[.int .i64 0, .int .i64 0] 27 (0, 0)) := by
  have h : Below (w.heap.size + 1) (w.alloc (.cells #[.int .i64 0, .int .i64 0] 27)) (learntW w) :=
    ((Below.refl _ _).alloc (by simp) _).alloc (by simp) _
  rw [h.block _ (by omega)]
  exact heap_alloc_new _ _
theorem learntW_kn (w : World) : KnAt w.heap.size (learntW w) (w.heap.size + 2) (w.heap.size + 1) (.slice none 0 0) (.slice none 0 0) (.slice none 0 0) [] [] := by
  have e : ((w.alloc (.cells #[.int .i64 0, .int .i64 0] 27)).alloc (.map #[] 0)).heap.size = w.heap.size + 2 := by simp
  refine knAt_nil (by rw [← e]; exact heap_alloc_new _ _) ⟨by omega, by omega, by omega⟩ ?_
  have h := names_nil (w := w.alloc (.cells #[.int .i64 0, .int .i64 0] 27))
  rw [World.size_alloc] at h
  refine h.below (?_ : Below _ _ (learntW w))
  rw [learntW]
  exact (Below.refl _ _).alloc (Nat.le_refl _) _

theorem learntW_kn' (w : World) (v v' : Value) : KnAt w.heap.size (((learntW w).setCell ⟨w.heap.size, 0, none⟩ v).setCell ⟨w.heap.size, 1, none⟩ v') (w.heap.size + 2) (w.heap.size + 1) (.slice none 0 0) (.slice none 0 0) (.slice none 0 0) [] [] := by
  have h := learntW_kn w
  refine knAt_nil ?_ h.base ((h.names.other _ (by simp) _).other _ (by simp) _)
  rw [Below.heap_setCell _ _ _ _ (by simp), Below.heap_setCell _ _ _ _ (by simp)]
  exact h.blk

set_option maxHeartbeats 1000000 in
theorem learn_nil (a : Option Addr) (cap : Nat) (w : World) : Calls Tryz.prog 33 #[.slice a 0 cap] w fun e w' => ∃ b mb, e = .returned (.tuple #[.pointer (some ⟨b, 0, none⟩), .agg #[.int .i64 0, .int .i64 0]]) ∧ w.heap.size ≤ b ∧ KnAt w.heap.size w' b mb (.slice none 0 0) (.slice none 0 0) (.slice none 0 0) [] [] ∧ Below w.heap.size w w' := by
  have hmm := @run_makeMap Tryz.prog
  have hat := learntW_at w
  obtain ⟨⟨d0, d1⟩, fd⟩ := two_block hat
  have fd0 := fd 0
  have fd1 := fd 1
  have hfin : ∀ v v', KnAt w.heap.size (((learntW w).setCell ⟨w.heap.size, 0, none⟩ v).setCell ⟨w.heap.size, 1, none⟩ v') (w.heap.size + 2) (w.heap.size + 1) (.slice none 0 0) (.slice none 0 0) (.slice none 0 0) [] [] := fun v v' => learntW_kn' w v v'
  have HF := Lib.hid hfin
  have HB := Lib.hid fun v v' => set_fault (learntW_below w) v v'
  clear hfin hat fd
  go_enter Tryz.func33, Tryz.ntmps33
  go_wp2_with fail
  rw [learntW_eq]
  generalize learntW w = w1 at *
  go_loop [17] (fun i => i = .int .i64 0) (fun _ => 0)
  case atStart => rfl
  case round =>
    obtain rfl := hrel
    go_wp2_with fail
    exact bodyPost_ret (v := .tuple #[.pointer (some ⟨w.heap.size + 2, 0, none⟩), .agg #[.int .i64 0, .int .i64 0]]) (by simp [results, Tryz.results33, go_sem, d0, d1]) rfl ⟨_, rfl, by omega, ⟨_, HF.out _ _⟩, HB.out _ _⟩

set_option maxHeartbeats 1000000 in
/-- types.Check, no structs being given -/
theorem checkNil_ok (s : ByteArray) (w : World) (hE : TE w) : Calls Tryz.prog 8 #[.string s, .slice none 0 0] w fun e w' => e = .returned (.int .i64 (checkS [] s)) ∧ Below w.heap.size w w' := by
  have HE := Lib.hid hE
  have HL := Lib.hid (learn_nil none 0 w)
  clear hE
  go_enter Tryz.func8, Tryz.ntmps8
  go_wp2_with (go_at_call 33; (with_reducible refine HL.out.mono ?_))
  rintro e w1 ⟨b, mb, rfl, hge, hk, hb1⟩
  have HB1 := Lib.hid hb1
  have hg : Below (w1.heap.size) w1 (w1.alloc (.cells #[.int .i64 0, .int .i64 0] 27)) := (Below.refl _ _).alloc (Nat.le_refl _) _
  have HC := Lib.hid (check_ok s _ (HE.out.below (hb1.trans (hg.mono hb1.size))) (hk.below hg) fitK_nil)
  clear hk hb1 hg
  go_wp2_with (go_at_call 34; (with_reducible refine HC.out.mono ?_))
  rintro e w2 ⟨rfl, hb2⟩
  go_wp2_with fail
  go_ret
  exact ⟨rfl, HB1.out.trans ((((Below.refl _ _).alloc (Nat.le_refl _) _).trans (hb2.mono (by simp))).mono HB1.out.size)⟩

end Go.Proofs.YtmmjmppfmjejkaaGreatDoor
