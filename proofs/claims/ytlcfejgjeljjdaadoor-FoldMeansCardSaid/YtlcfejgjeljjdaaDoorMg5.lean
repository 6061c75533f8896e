/- A region that draws its order and begins with a call that writes: the call first, by force; the rest, which only reads, in the text's order. Nothing of the program. · How deep a type is; whether a text is one. -/
import Derived.Deep.QuietTactic
import Derived.BigQuiet
import Derived.RegionTactic
import Derived.Deep.RegionWith
import Derived.Test.YtlcfejgjeljjdaaDoorRead2
import Derived.Deep.DeepCutAuto
namespace Go
open Go.RowKit

theorem wpAny_rest {P : Program} {md : Region.Mode} {ops : Array Oper} {Q : Exit → Act → World → Prop} {fuel : Nat} {listed : Array Bool} {a : Act} {w : World} (k : Nat) (l : List Oper) (hl : ops.toList.drop k = l) (hn : l.length = fuel)
    (hns : Region.noSelect ops = true) (hB : Region.lexFrom md ops l.length k listed = true)
    (h : wpQuiet P ops (fun w' => ∃ n, w' = w.drewN n) (fun a' => ∀ w', (∃ n, w' = w.drewN n) → Q .normal a' w') l a) : wpAny P md ops Q fuel listed a w := by
  subst hn
  refine wpAny_of_quiet (C := fun w' => ∃ n, w' = w.drewN n) (Q := fun a' => ∀ w', (∃ n, w' = w.drewN n) → Q .normal a' w') (fun _ w' hw' h => h w' hw') _ _ _ _ ⟨0, rfl⟩ ?_
  refine wpAnyQ_lex hns l k listed a (fun j => ?_) hB h
  rw [← hl, List.getElem?_drop, Array.getElem?_toList]
end Go
namespace Go.Proofs.YtlcfejgjeljjdaaDoor
open Go.RowKit

/-- how deep the type is that a text is; 0: it is none -/
def depthS (s : ByteArray) : Nat := match tyS s with
  | some t => deepT t
  | none => 0
theorem tyS_in {s : ByteArray} (hs : s.size ≤ 65536) : tyS s = (tyF (2 * s.size + 1) (sfx s 0)).bind fun q => if q.2 = [] then some q.1 else none := by
  unfold tyS
  rw [if_pos hs, tyE]
  have : s.data.toList.length = s.size := by rw [Array.length_toList]; rfl
  rw [this]
  simp [sfx]
theorem blw_grown {w w1 w4 : World} {b : Nat} (h : Below w.heap.size w w1) (hg : w1.drew.grownBy w4 (some b)) (hb : w.heap.size ≤ b := by exact Nat.le_refl _) : Below w.heap.size w w4 :=
  h.trans (below_grown (grown_trans (grown_drewN (grown_refl w1 _) 1) hg) hb h.size)
set_option maxHeartbeats 2000000 in
theorem depth_long (s : ByteArray) (w : World) (hs : 65536 < s.size) : Calls Tryd.prog 62 #[.string s] w fun e w' => e = .returned (.int .i64 0) ∧ Below w.heap.size w w' := by
  have t1 : (65536 : Int) < s.size := by omega
  go_enter Tryd.func62, Tryd.ntmps62
  go_wp2_with fail
  go_ret
  exact ⟨rfl, Below.refl _ _⟩

set_option maxHeartbeats 4000000 in
set_option maxRecDepth 100000 in
theorem depth_in (s : ByteArray) (w : World) (hs : s.size ≤ 65536) (hK : KeysAt w) (hb : 0 < w.heap.size) : Calls Tryd.prog 62 #[.string s] w fun e w' => e = .returned (.int .i64 (depthS s)) ∧ Below w.heap.size w w' := by
  have t1 : (s.size : Int) ≤ 65536 := by omega
  have HT := Lib.hid (tyS_in hs)
  have HK := Lib.hid hK
  clear hK
  go_enter Tryd.func62, Tryd.ntmps62
  go_upto_region 4 with fail
  generalize hw1 : World.alloc _ _ = w1
  have H1 := Lib.hid (show RdAt w1 w.heap.size s 0 0 by rw [← hw1]; exact ⟨heap_alloc_new w _⟩)
  have HB1 := Lib.hid (show Below w.heap.size w w1 by rw [← hw1]; exact (Below.refl _ _).alloc (Nat.le_refl _) _)
  clear hw1
  have HRd := Lib.hid (show Calls Tryd.prog 74 #[.pointer (some ⟨w.heap.size, 0, none⟩), .int .i64 1] w1.drew (ReadP w1.drew w.heap.size s 1 0 (tyF (2 * s.size + 1) (sfx s 0))) from
    read_all (2 * s.size + 1) w.heap.size 0 1 0 s w1.drew (H1.out.drewN 1) (Nat.zero_le _) (by omega) hs (by omega) ((HK.out.below HB1.out).drewN 1) hb)
  rcases hty : tyF (2 * s.size + 1) (sfx s 0) with _ | ⟨t, q⟩
  · rw [hty] at HRd
    have hfin := Lib.hid (show depthS s = 0 by unfold depthS; rw [HT.out, hty]; rfl)
    clear hty
    · skip
      refine wp_region_any (by kernel_rfl) ?_
      change wpAny _ _ _ _ _ _ _ (World.drew _)
      refine wpAny_ready (rs := [0]) (by kernel_rfl) (by simp) ?_
      refine AllReady.cons rfl (fun K hK => ?_) AllReady.nil
      go_simp
      refine hK _ _ ?_
      clear hK K
      refine wpAny_ready (rs := [1]) (by kernel_rfl) (by simp) ?_
      refine AllReady.cons rfl (fun K hK => ?_) AllReady.nil
      go_simp
      (with_reducible refine HRd.out.mono ?_)
      rintro e w4 ⟨⟨rfl, k2, d2, hT⟩, hg⟩
      show K _ _
      refine hK _ _ ?_
      clear hK K
      have HBx := Lib.hid (blw_grown HB1.out hg)
      clear hT hg
      refine wpAny_rest 2 _ (by simp only [List.drop_succ_cons, List.drop_zero]) rfl (by kernel_rfl) (by kernel_rfl) ?_
      repeat (go_big_quiet_step (fail))
      refine wpQuiet_nil ?_
      intro _ hw'
      obtain ⟨nq, rfl⟩ := hw'
      go_wp2_with fail
      go_ret
      exact ⟨by rw [hfin.out]; rfl, blw_drewN HBx.out _⟩
  · rw [hty] at HRd
    obtain ⟨hcode, hrt⟩ := (tyF_code _).1 _ _ _ hty
    obtain ⟨hq, hpos, hle, hql⟩ := rest_sfx hcode (Nat.zero_le _)
    have hdp := deepT_pos t
    by_cases hq0 : q = []
    · subst hq0
      have hfin := Lib.hid (show depthS s = deepT t by unfold depthS; rw [HT.out, hty]; rfl)
      clear hty hcode hrt hq hpos hle hql
      refine wp_region_any (by kernel_rfl) ?_
      change wpAny _ _ _ _ _ _ _ (World.drew _)
      refine wpAny_ready (rs := [0]) (by kernel_rfl) (by simp) ?_
      refine AllReady.cons rfl (fun K hK => ?_) AllReady.nil
      go_simp
      refine hK _ _ ?_
      clear hK K
      refine wpAny_ready (rs := [1]) (by kernel_rfl) (by simp) ?_
      refine AllReady.cons rfl (fun K hK => ?_) AllReady.nil
      go_simp
      (with_reducible refine HRd.out.mono ?_)
      rintro e w4 ⟨⟨rfl, hT⟩, hg⟩
      show K _ _
      refine hK _ _ ?_
      clear hK K
      rw [show s.size - ([] : List UInt8).length = s.size by simp, show max 0 (1 + deepT t - 1) = deepT t by omega] at hT
      obtain ⟨⟨c0, c1, c2⟩, _⟩ := hT.cells
      have HBx := Lib.hid (blw_grown HB1.out hg)
      clear hT hg
      refine wpAny_rest 2 _ (by simp only [List.drop_succ_cons, List.drop_zero]) rfl (by kernel_rfl) (by kernel_rfl) ?_
      repeat (go_big_quiet_step (fail))
      refine wpQuiet_nil ?_
      intro _ hw'
      obtain ⟨nq, rfl⟩ := hw'
      go_wp2_with fail
      go_ret
      exact ⟨by rw [hfin.out]; rfl, blw_drewN HBx.out _⟩
    · have hfin := Lib.hid (show depthS s = 0 by unfold depthS; rw [HT.out, hty]; simp [hq0])
      obtain ⟨k3, ek⟩ : ∃ k3, k3 = s.size - q.length := ⟨_, rfl⟩
      have hk3 : ((k3 : Int) != s.size) = true := by
        have : 1 ≤ q.length := List.length_pos_iff.2 hq0
        simp; omega
      have EK := Lib.hid ek
      clear hty hcode hrt hq hpos hle hql hq0 ek
      refine wp_region_any (by kernel_rfl) ?_
      change wpAny _ _ _ _ _ _ _ (World.drew _)
      refine wpAny_ready (rs := [0]) (by kernel_rfl) (by simp) ?_
      refine AllReady.cons rfl (fun K hK => ?_) AllReady.nil
      go_simp
      refine hK _ _ ?_
      clear hK K
      refine wpAny_ready (rs := [1]) (by kernel_rfl) (by simp) ?_
      refine AllReady.cons rfl (fun K hK => ?_) AllReady.nil
      go_simp
      (with_reducible refine HRd.out.mono ?_)
      rintro e w4 ⟨⟨rfl, hT⟩, hg⟩
      show K _ _
      refine hK _ _ ?_
      clear hK K
      rw [← EK.out] at hT
      obtain ⟨⟨c0, c1, c2⟩, _⟩ := hT.cells
      have HBx := Lib.hid (blw_grown HB1.out hg)
      clear hT hg
      refine wpAny_rest 2 _ (by simp only [List.drop_succ_cons, List.drop_zero]) rfl (by kernel_rfl) (by kernel_rfl) ?_
      repeat (go_big_quiet_step (fail))
      refine wpQuiet_nil ?_
      intro _ hw'
      obtain ⟨nq, rfl⟩ := hw'
      go_wp2_with fail
      go_ret
      exact ⟨by rw [hfin.out]; rfl, blw_drewN HBx.out _⟩

/-- how deep a type is -/
theorem depth_ok (s : ByteArray) (w : World) (hK : KeysAt w) (hb : 0 < w.heap.size) : Calls Tryd.prog 62 #[.string s] w fun e w' => e = .returned (.int .i64 (depthS s)) ∧ Below w.heap.size w w' := by
  by_cases hs : s.size ≤ 65536
  · exact depth_in s w hs hK hb
  · have : depthS s = 0 := by unfold depthS tyS; rw [if_neg hs]
    rw [this]
    exact depth_long s w (by omega)
theorem depthS_pos (s : ByteArray) : decide ((0 : Int) < depthS s) = (tyS s).isSome := by
  unfold depthS
  cases h : tyS s with
  | none => simp
  | some t => have := deepT_pos t; simp; omega
theorem form_ok (s : ByteArray) (w : World) (hK : KeysAt w) (hb : 0 < w.heap.size) : Calls Tryd.prog 47 #[.string s] w fun e w' => e = .returned (.bool (tyS s).isSome) ∧ Below w.heap.size w w' := by
  have HF := Lib.hid (depthS_pos s)
  have HD := Lib.hid (depth_ok s w hK hb)
  clear hK
  go_enter Tryd.func47, Tryd.ntmps47
  go_wp2_with (go_at_call 62; refine HD.out.mono ?_)
  rintro e w1 ⟨rfl, hb1⟩
  have HB := Lib.hid hb1
  clear hb1
  generalize (depthS s : Int) = x at HF ⊢
  go_wp2_with fail
  go_ret
  exact ⟨by rw [← HF.out]; rfl, HB.out⟩

end Go.Proofs.YtlcfejgjeljjdaaDoor
