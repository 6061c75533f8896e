/- What the statements begin with: the chapter's first two examples. -/
import Derived.Test.YtmmjmppfmjejkaaGreatDoorMember
import Derived.Test.YtmmjmppfmjejkaaGreatDoorPartsM
namespace Go.Proofs.YtmmjmppfmjejkaaGreatDoor
open Go.RowKit Go.Maps

/-- the example's structs -/
def wL : List Sr := [⟨⟨#[116]⟩, [(⟨#[102, 105, 114, 115, 116]⟩, ⟨#[99]⟩), (⟨#[115, 101, 99, 111, 110, 100]⟩, ⟨#[105]⟩)]⟩]
def wK : List Kn := [⟨⟨⟨#[116]⟩, [(⟨#[102, 105, 114, 115, 116]⟩, ⟨#[99]⟩), (⟨#[115, 101, 99, 111, 110, 100]⟩, ⟨#[105]⟩)]⟩, 8, 4⟩]
theorem work1 : sizeR wL ⟨#[97, 51, 58, 83, 116, 59]⟩ = (24, 4, 0) := by kernel_rfl
theorem work2 : memberR wL ⟨#[116]⟩ ⟨#[115, 101, 99, 111, 110, 100]⟩ = (4, ⟨#[105]⟩, 0) := by kernel_rfl
theorem work3 : declareV (tyS ⟨#[112, 102, 40, 105, 44, 112, 99, 41, 105]⟩) ⟨#[103]⟩ = .tuple #[.string ⟨#[105, 110, 116, 32, 40, 42, 103, 41, 40, 105, 110, 116, 44, 32, 99, 104, 97, 114, 32, 42, 41]⟩, .int .i64 0] := by kernel_rfl
theorem workK : learnK wL = .inr wK := by kernel_rfl
theorem work_c : tyS ⟨#[99]⟩ = some (.base 99) := by kernel_rfl
theorem work_i : tyS ⟨#[105]⟩ = some (.base 105) := by kernel_rfl
theorem work_ok : ∀ K, learnK wL = .inr K → ∀ x ∈ wL, MemsOk K x.mems := by
  intro K hK x hx
  rw [wL, List.mem_singleton] at hx
  subst hx
  refine ⟨by decide, fun m hm => ?_⟩
  simp only [List.mem_cons, List.not_mem_nil, or_false] at hm
  rcases hm with rfl | rfl
  · exact ⟨_, work_c, rfl, rfl, by rw [measT]; decide⟩
  · exact ⟨_, work_i, rfl, rfl, by rw [measT]; decide⟩
theorem work_names : ∀ x ∈ wL, x.name.size ≤ maxLen := by
  intro x hx
  rw [wL, List.mem_singleton] at hx
  subst hx
  decide
theorem work_srs (w : World) (g g2 : Nat) (h1 : w.heap[g]? = some (.cells #[.string ⟨#[102, 105, 114, 115, 116]⟩, .string ⟨#[99]⟩, .string ⟨#[115, 101, 99, 111, 110, 100]⟩, .string ⟨#[105]⟩] 62 (0, 0)))
    (h2 : w.heap[g2]? = some (.cells #[.string ⟨#[116]⟩, .slice (some ⟨g, 0, none⟩) 2 2] 52 (0, 0))) : IsSrs w.heap.size w (some ⟨g2, 0, none⟩) wL [.slice (some ⟨g, 0, none⟩) 2 2] := by
  refine ⟨rfl, fun _ => ⟨g2, 0, rfl, lt_of_heap h2, fun i x v hi hv => ?_⟩, work_names⟩
  have hi0 : i = 0 := by
    have := (List.getElem?_eq_some_iff.1 hv).1
    simp at this; exact this
  subst hi0
  obtain rfl := Option.some.inj hi
  obtain rfl := Option.some.inj hv
  obtain ⟨⟨a0, a1⟩, _⟩ := two_block h2
  refine ⟨a0, a1, _, _, rfl, fun _ => ⟨g, 0, rfl, lt_of_heap h1, fun k m hk => ?_⟩⟩
  have hk2 : k < 2 := (List.getElem?_eq_some_iff.1 hk).1
  have : k = 0 ∨ k = 1 := by omega
  rcases this with rfl | rfl
  · obtain rfl := Option.some.inj hk
    exact ⟨by simp [World.cell?, h1], by simp [World.cell?, h1]⟩
  · obtain rfl := Option.some.inj hk
    exact ⟨by simp [World.cell?, h1], by simp [World.cell?, h1]⟩

/-- the world behind the example's structs -/
def workW (w : World) : World := (w.alloc (.cells #[.string ⟨#[102, 105, 114, 115, 116]⟩, .string ⟨#[99]⟩, .string ⟨#[115, 101, 99, 111, 110, 100]⟩, .string ⟨#[105]⟩] 62)).alloc (.cells #[.string ⟨#[116]⟩, .slice (some ⟨w.heap.size, 0, none⟩) 2 2] 52)
theorem workW_eq (w : World) : (w.alloc (.cells #[.string ⟨#[102, 105, 114, 115, 116]⟩, .string ⟨#[99]⟩, .string ⟨#[115, 101, 99, 111, 110, 100]⟩, .string ⟨#[105]⟩] 62)).alloc (.cells #[.string ⟨#[116]⟩, .slice (some ⟨w.heap.size, 0, none⟩) 2 2] 52) = workW w := rfl
theorem workW_below (w : World) : Below w.heap.size w (workW w) := ((Below.refl _ _).alloc (Nat.le_refl _) _).alloc (by simp) _
theorem workW_srs (w : World) : IsSrs (workW w).heap.size (workW w) (some ⟨w.heap.size + 1, 0, none⟩) wL [.slice (some ⟨w.heap.size, 0, none⟩) 2 2] := by
  have e : (w.alloc (.cells #[.string ⟨#[102, 105, 114, 115, 116]⟩, .string ⟨#[99]⟩, .string ⟨#[115, 101, 99, 111, 110, 100]⟩, .string ⟨#[105]⟩] 62)).heap.size = w.heap.size + 1 := by simp
  refine work_srs (workW w) _ _ ?_ (by rw [← e]; exact heap_alloc_new _ _)
  rw [workW, Below.heap_alloc _ _ _ (by rw [e]; omega)]
  exact heap_alloc_new _ _

set_option maxHeartbeats 4000000 in
set_option maxRecDepth 100000 in
theorem works_ok (w : World) (hE : TE w) : Calls Tryz.prog 14 #[] w fun e w' => e = .returned (.bool true) ∧ Below w.heap.size w w' := by
  have HE := Lib.hid hE
  clear hE
  go_enter Tryz.func14, Tryz.ntmps14
  go_upto_region 2 with fail
  rw [workW_eq]
  have hb2 := workW_below w
  have hs2 := workW_srs w
  generalize workW w = w2 at *
  have HSz := Lib.hid (show Calls Tryz.prog 27 #[.string ⟨#[97, 51, 58, 83, 116, 59]⟩, .slice (some ⟨w.heap.size + 1, 0, none⟩) 1 1] w2 fun e w' => e = .returned (.tuple #[.int .i64 24, .int .i64 4, .int .i64 0]) ∧ Below w2.heap.size w2 w' by
    have h := size_ok ⟨#[97, 51, 58, 83, 116, 59]⟩ (some ⟨w.heap.size + 1, 0, none⟩) 1 wL _ w2 (HE.out.below hb2) hs2
    rw [work1] at h
    exact h)
  have HMb := Lib.hid fun w3 (h3 : Below w2.heap.size w2 w3) => show Calls Tryz.prog 31 #[.slice (some ⟨w.heap.size + 1, 0, none⟩) 1 1, .string ⟨#[116]⟩, .string ⟨#[115, 101, 99, 111, 110, 100]⟩] w3 fun e w' => e = .returned (.tuple #[.int .i64 4, .string ⟨#[105]⟩, .int .i64 0]) ∧ Below w3.heap.size w3 w' by
    have hs3 := hs2.below h3
    have h := member_ok ⟨#[116]⟩ ⟨#[115, 101, 99, 111, 110, 100]⟩ (some ⟨w.heap.size + 1, 0, none⟩) 1 wL _ w3 (HE.out.below (hb2.trans (h3.mono hb2.size))) ⟨hs3.len, (fun hne => (by obtain ⟨b, off, e, hlt, hr⟩ := hs3.at_ hne; exact ⟨b, off, e, Nat.lt_of_lt_of_le hlt h3.size, fun i x v hi hv => (by obtain ⟨q1, q2, q3⟩ := hr i x v hi hv; exact ⟨q1, q2, q3.mono h3.size⟩)⟩)), hs3.names⟩ (by decide) work_ok
    rw [work2] at h
    exact h
  have HDc := Lib.hid fun w4 (h4 : Below w2.heap.size w2 w4) => show Calls Tryz.prog 21 #[.string ⟨#[112, 102, 40, 105, 44, 112, 99, 41, 105]⟩, .string ⟨#[103]⟩] w4 fun e w' => e = .returned (.tuple #[.string ⟨#[105, 110, 116, 32, 40, 42, 103, 41, 40, 105, 110, 116, 44, 32, 99, 104, 97, 114, 32, 42, 41]⟩, .int .i64 0]) ∧ Below w4.heap.size w4 w' by
    have h := declare_ok ⟨#[112, 102, 40, 105, 44, 112, 99, 41, 105]⟩ ⟨#[103]⟩ w4 (HE.out.below (hb2.trans (h4.mono hb2.size)))
    rw [work3] at h
    exact h
  have HB2 := Lib.hid hb2
  clear hb2 hs2
  go_wp2_with (go_at_call 27; (with_reducible refine HSz.out.mono ?_); rintro e w3 ⟨rfl, hb3⟩; have HB3 := Lib.hid hb3; clear hb3)
  have HM3 := Lib.hid (HMb.out _ HB3.out)
  go_wp2_with (go_at_call 31; (with_reducible refine HM3.out.mono ?_); rintro e w4 ⟨rfl, hb4⟩; have HB4 := Lib.hid (HB3.out.trans (hb4.mono HB3.out.size)); clear hb4)
  have HD4 := Lib.hid (HDc.out _ HB4.out)
  go_wp2_with (go_at_call 21; (with_reducible refine HD4.out.mono ?_); rintro e w5 ⟨rfl, hb5⟩; have HB5 := Lib.hid (HB4.out.trans (hb5.mono HB4.out.size)); clear hb5)
  go_ret
  exact ⟨rfl, HB2.out.trans (HB5.out.mono HB2.out.size)⟩
end Go.Proofs.YtmmjmppfmjejkaaGreatDoor
