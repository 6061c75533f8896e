/- Whether a type has the parts that it may have: the program. -/
import Derived.Test.YtkokdafkjjcgoaaGreatDoorParts3
import Derived.Test.YtkokdafkjjcgoaaGreatDoorDecl3
namespace Go.Proofs.YtkokdafkjjcgoaaGreatDoor
open Go.RowKit

def ShapeC (t : Ty) : Prop := ∀ w, TE w → Calls Tryz.prog 201 #[.string (tyB t)] w fun e w' => e = .returned (.bool (shapeT t)) ∧ Below w.heap.size w w'
theorem tyS_tyB {t : Ty} (hr : Right t) (hl : (code t).length ≤ 65536) : tyS (tyB t) = some t := tyS_some.2 ⟨rfl, hr, hl⟩
theorem isScal_is (r : Bool) {t : Ty} (w : World) (hE : TE w) (hr : Right t) (hl : (code t).length ≤ 65536) (h : isScalarT t = r) : Calls Tryz.prog 234 #[.string (tyB t)] w fun e w' => e = .returned (.bool r) ∧ Below w.heap.size w w' := by
  have := isScalar_ok (tyB t) w hE
  rw [show isScalS (tyB t) = isScalarT t by unfold isScalS; rw [tyS_tyB hr hl]; rfl, h] at this
  exact this

theorem shape_clo (p : Ty) (w : World) (hE : TE w) (hr : Right p) (hl : (code p).length ≤ 65536) (ih : ShapeC p) :
    Calls Tryz.prog 236 #[.string (tyB p)] w fun e w' => e = .returned (.bool (!(isScalarT p && shapeT p))) ∧ Below w.heap.size w w' := by
  have HE := Lib.hid hE
  unfold ShapeC at ih
  have HI := Lib.hid ih
  rcases hs : isScalarT p with _ | _
  · have H := Lib.hid (isScal_is false w hE hr hl hs)
    clear hs hE ih
    go_enter Tryz.func236, Tryz.ntmps236
    go_wp2_with (go_at_call 234; (with_reducible refine H.out.mono ?_); rintro e w1 ⟨rfl, hb1⟩)
    go_ret
    exact ⟨rfl, hb1⟩
  · have H := Lib.hid (isScal_is true w hE hr hl hs)
    clear hs hE ih
    generalize hsh : shapeT p = b at *
    have HSh := Lib.hid hsh
    clear hsh
    go_enter Tryz.func236, Tryz.ntmps236
    go_wp2_with (go_at_call 234; (with_reducible refine H.out.mono ?_))
    rintro e w1 ⟨rfl, hb1⟩
    go_wp2_with (go_at_call 201; (with_reducible refine (HI.out _ (HE.out.below hb1)).mono ?_))
    rintro e w2 ⟨rfl, hb2⟩
    go_wp2_with fail
    go_ret
    exact ⟨by simp, hb1.trans (hb2.mono hb1.size)⟩

theorem shapes_all (l : List Ty) : shapesT l = l.all fun p => isScalarT p && shapeT p := by
  induction l with
  | nil => rfl
  | cons t l ih => rw [shapesT, ih]; rfl

set_option maxHeartbeats 2000000 in
theorem shape_idx (ps : List Ty) (g cap : Nat) (w : World) (hE : TE w) (hg : g < w.heap.size) (hr : Rights ps) (hl : ∀ p ∈ ps, (code p).length ≤ 65536) (ih : ∀ p ∈ ps, ShapeC p) (hn : ps.length ≤ 65536)
    (hc : ∀ j (hj : j < ps.length), w.cell? ⟨g, j, none⟩ = some (.string (tyB ps[j]))) :
    Calls Tryz.prog 251 #[.slice (some ⟨g, 0, none⟩) ps.length cap, .func (.func 236) #[] #[]] w fun e w' => ∃ o : Int, e = .returned (.int .i64 o) ∧ decide (0 ≤ o) = !shapesT ps ∧ Below w.heap.size w w' := by
  have HE := Lib.hid hE
  have HC := Lib.hid hc
  have HI := Lib.hid ih
  have HL := Lib.hid hl
  have HR := Lib.hid hr
  clear hE hc ih hl hr
  go_enter Tryz.func251, Tryz.ntmps251
  go_wp2_with fail
  go_loopw [8] (fun i wr => ∃ k : Nat, k ≤ ps.length ∧ i = .int .i64 k ∧ Hid (∀ j (hj : j < ps.length), j < k → (isScalarT ps[j] && shapeT ps[j]) = true) ∧ Below w.heap.size w wr) (fun i _ => ps.length - (intOf i).toNat)
  case atStart => exact ⟨0, Nat.zero_le _, rfl, fun j _ h => by omega, Below.refl _ _⟩
  case round =>
    obtain ⟨k, hk, rfl, hno, hb⟩ := hrel
    have HB := Lib.hid hb
    have hsz := hb.size
    by_cases hlt : k < ps.length
    · have hck : wr.cell? ⟨g, k, none⟩ = some (.string (tyB ps[k])) := by
        rw [hb.cell (p := ⟨g, k, none⟩) hg]; exact HC.out k hlt
      have hm : ps[k] ∈ ps := List.getElem_mem hlt
      have HD := Lib.hid (shape_clo ps[k] wr (HE.out.below hb) (by
        obtain ⟨a, b, e⟩ := List.append_of_mem hm
        have h := HR.out
        rw [e] at h
        exact rights_at h) (HL.out _ hm) (HI.out _ hm))
      clear hb hm
      rcases hgd : (isScalarT ps[k] && shapeT ps[k]) with _ | _
      · have hfin := Lib.hid (show shapesT ps = false by
          rw [shapes_all, Bool.eq_false_iff]; intro e
          have := List.all_eq_true.1 e ps[k] (List.getElem_mem hlt)
          rw [hgd] at this; cases this)
        rw [hgd] at HD
        generalize tyB ps[k] = st at *
        clear hgd
        go_wp2_with (go_at_call 236; (with_reducible refine HD.out.mono ?_))
        rintro e w2 ⟨rfl, hb2⟩
        go_wp2_with fail
        go_ret
        exact ⟨_, rfl, by rw [hfin.out]; simp, HB.out.trans (hb2.mono hsz)⟩
      · have HN := Lib.hid (show ∀ j (hj : j < ps.length), j < k + 1 → (isScalarT ps[j] && shapeT ps[j]) = true from fun j hj h => by
          rcases Nat.lt_or_ge j k with h' | h'
          · exact hno.out j hj h'
          · obtain rfl : j = k := by omega
            exact hgd)
        rw [hgd] at HD
        generalize tyB ps[k] = st at *
        clear hgd
        go_wp2_with (go_at_call 236; (with_reducible refine HD.out.mono ?_))
        rintro e w2 ⟨rfl, hb2⟩
        have HB2 := Lib.hid (HB.out.trans (hb2.mono hsz))
        clear hb2
        go_wp2_with fail
        go_roundw
        case rel => exact ⟨k + 1, by omega, by go_num, HN, HB2.out⟩
        case measure => simp [intOf]; omega
    · obtain rfl : k = ps.length := by omega
      have hfin := Lib.hid (show shapesT ps = true by
        rw [shapes_all, List.all_eq_true]
        intro p hp
        obtain ⟨j, hj, rfl⟩ := List.getElem_of_mem hp
        exact hno.out j hj hj)
      clear hno hb
      go_wp2_with fail
      go_ret
      exact ⟨-1, rfl, by rw [hfin.out]; rfl, HB.out⟩

theorem idx_empty (a : Option Addr) (cap : Nat) (f : Value) (w : World) : Calls Tryz.prog 251 #[.slice a 0 cap, f] w fun e w' => e = .returned (.int .i64 (-1)) ∧ w' = w := by
  go_enter Tryz.func251, Tryz.ntmps251
  go_wp2_with fail
  go_loop [8] (fun i => i = .int .i64 0) (fun _ => 0)
  case atStart => rfl
  case round =>
    obtain rfl := hrel
    go_wp2_with fail
    go_ret
    exact ⟨rfl, rfl⟩
/-- slices.ContainsFunc at that function -/
theorem shape_has (ps : List Ty) (v : Value) (n : Nat) (B : Nat) (w : World) (hE : TE w) (hB : w.ownsRow B 34 1 v n (ps.map fun p => .string (tyB p))) (hn : n = ps.length) (hr : Rights ps) (hl : ∀ p ∈ ps, (code p).length ≤ 65536) (ih : ∀ p ∈ ps, ShapeC p) (hnl : ps.length ≤ 65536) :
    Calls Tryz.prog 235 #[v, .func (.func 236) #[] #[]] w fun e w' => e = .returned (.bool (!shapesT ps)) ∧ Below w.heap.size w w' := by
  obtain ⟨a, cap, rfl, hrow⟩ := own_formT hB
  subst hn
  by_cases h0 : ps = []
  · subst h0
    clear hE hB hr hl ih hrow hnl
    go_enter Tryz.func235, Tryz.ntmps235
    go_wp2_with (go_at_call 251; (with_reducible refine (idx_empty _ _ _ _).mono ?_); rintro e w1 ⟨rfl, rfl⟩)
    go_ret
    exact ⟨rfl, Below.refl _ _⟩
  · obtain ⟨g, rfl, hg1, hg2, hc⟩ := hrow (List.length_pos_iff.2 h0)
    have H := Lib.hid (shape_idx ps g cap w hE hg2 hr hl ih hnl (fun j hj => hc j _ (by rw [List.getElem?_map, List.getElem?_eq_getElem hj]; rfl)))
    clear hE hB hr hl ih hrow hc
    go_enter Tryz.func235, Tryz.ntmps235
    go_wp2_with (go_at_call 251; (with_reducible refine H.out.mono ?_); rintro e w1 ⟨o, rfl, ho, hb1⟩; have HO := Lib.hid ho; clear ho)
    go_ret
    exact ⟨by rw [← HO.out]; rfl, hb1⟩

end Go.Proofs.YtkokdafkjjcgoaaGreatDoor

