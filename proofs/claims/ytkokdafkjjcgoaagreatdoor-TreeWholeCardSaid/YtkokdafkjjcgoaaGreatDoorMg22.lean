/- What is wrong with a tree, and where its parts begin: the program. · A copy of a tree. · The same numbers. -/
import Derived.Test.YtkokdafkjjcgoaaGreatDoorMg21
import Derived.Test.YtkokdafkjjcgoaaGreatDoorMg11
import Derived.Test.YtkokdafkjjcgoaaGreatDoorMg19
import Derived.Laws.AppendOwnNone
import Derived.Lib.SliceRun
import Derived.Test.YtkokdafkjjcgoaaGreatDoorOpen
namespace Go.Proofs.YtkokdafkjjcgoaaGreatDoor
open Go.RowKit

theorem nats_set {B r o : Nat} {w : World} {a : Option Addr} {L : List Nat} {u : Value} (h : IsNats B w a L) (hne : ∀ g off, a = some ⟨g, off, none⟩ → g ≠ r) : IsNats B (w.setCell ⟨r, o, none⟩ u) a L := fun hn => by
  obtain ⟨g, off, ha, hlt, hc⟩ := h hn
  refine ⟨g, off, ha, hlt, fun i x hx j v hv => ?_⟩
  rw [World.cell?_setCell_other _ _ _ _ (fun e => hne g off ha (by rw [Addr.mk.injEq] at e; exact e.1.symm))]
  exact hc i x hx j v hv
/-- numbers of one's own, whose block is none of those ahead -/
theorem NatRow.far {w : World} {base : Nat} {v : Value} {L : List Nat} (h : NatRow w base v L) (hn : L ≠ []) : ∃ g cap, v = .slice (some ⟨g, 0, none⟩) L.length cap ∧ base ≤ g ∧ IsNats w.heap.size w (some ⟨g, 0, none⟩) L := by
  obtain ⟨a, cap, hv, ha⟩ := natRow_sl h
  obtain ⟨g, hg, hb, _, _⟩ := ha hn
  obtain ⟨a2, cap2, hv2, hN, _⟩ := h.is
  subst hv hg
  simp only [Value.slice.injEq] at hv2
  exact ⟨g, cap, rfl, hb, by rw [hv2.1]; exact hN⟩
/-- a store into a block that is neither's -/
theorem whole_set {w0 w : World} {a : Option Addr} {g : Nat} {t : List Nd} {fr : List Nat} (h : WholeAt w a (some ⟨g, 0, none⟩) t fr) (hI : IsNds w0.heap.size w0 a t) (hg : w0.heap.size < g) (o : Nat) (u : Value) : WholeAt (w.setCell ⟨w0.heap.size, o, none⟩ u) a (some ⟨g, 0, none⟩) t fr := by
  refine ⟨fun hn => ?_, ?_⟩
  · obtain ⟨b, off, ha, hlt, hc⟩ := h.nds hn
    obtain ⟨b2, off2, ha2, hlt2, _⟩ := hI hn
    obtain ⟨rfl, rfl⟩ : b = b2 ∧ off = off2 := by rw [ha] at ha2; simpa using ha2
    refine ⟨b, off, ha, by simpa using hlt, fun i x hx j v hv => ?_⟩
    rw [World.cell?_setCell_other _ _ _ _ (fun e => by rw [Addr.mk.injEq] at e; omega)]
    exact hc i x hx j v hv
  · have := nats_set (r := w0.heap.size) (o := o) (u := u) h.nats (fun g' off e => by simp at e; omega)
    exact this.mono (by simp)
/-- in a block that was not there -/
def FarB (w : World) (b : Option Addr) : Prop := ∀ (g off : Nat), b = some ⟨g, off, none⟩ → w.heap.size ≤ g
/-- how looked ends -/
def LookedEnd (a : Option Addr) (cap : Nat) (t : List Nd) (w : World) (e : Ending) (w' : World) : Prop :=
  ((checkN9 t = 0 ∧ ∃ (b : Option Addr) (capb : Nat) (fr : List Nat), e = .returned (.tuple #[.agg #[.slice a t.length cap, .slice b fr.length capb], .int .i64 0]) ∧ beginsN t = some fr ∧ Given t fr ∧ WholeAt w' a b t fr ∧ FarB w b) ∨ (checkN9 t ≠ 0 ∧ e = .returned (.tuple #[.agg #[.slice none 0 0, .slice none 0 0], .int .i64 (checkN9 t)]))) ∧ Below w.heap.size w w'
theorem looked_no {a : Option Addr} {cap : Nat} {t : List Nd} {w w' : World} {c : Int} (h : checkN9 t = c) (hc : c ≠ 0) (hb : Below w.heap.size w w') : LookedEnd a cap t w (.returned (.tuple #[.agg #[.slice none 0 0, .slice none 0 0], .int .i64 c])) w' := ⟨.inr ⟨by rw [h]; exact hc, by rw [h]⟩, hb⟩
theorem looked_yes {a b : Option Addr} {cap capb : Nat} {t : List Nd} {fr : List Nat} {w w' : World} (h : checkN9 t = 0) (hg : beginsN t = some fr) (hG : Given t fr) (hW : WholeAt w' a b t fr) (hf : FarB w b) (hb : Below w.heap.size w w') : LookedEnd a cap t w (.returned (.tuple #[.agg #[.slice a t.length cap, .slice b fr.length capb], .int .i64 0])) w' := ⟨.inl ⟨h, b, capb, fr, rfl, hg, hG, hW, hf⟩, hb⟩

set_option maxRecDepth 100000 in
set_option maxHeartbeats 8000000 in
theorem looked_ok (a : Option Addr) (cap : Nat) (t : List Nd) (w : World) (hE : TE w) (hI : IsNds w.heap.size w a t) (hOk : ∀ x ∈ t, NdOk x) (hz : t.length * 64 ≤ 140737488351232) :
    Calls Tryz.prog 37 #[.slice a t.length cap] w (LookedEnd a cap t w) := by
  have HI := Lib.hid hI
  have HOk := Lib.hid hOk
  have HE := Lib.hid hE
  clear hI hOk hE
  have hmx : (t.length : Int) ≤ 2199023255488 := by omega
  rcases Nat.lt_or_ge 4096 t.length with hl | hl
  · have t1 : decide ((4096 : Int) < (t.length : Int)) = true := by rw [decide_eq_true_iff]; omega
    have hv := Lib.hid (check_long hl)
    go_enter Tryz.func37, Tryz.ntmps37
    go_upto_region 1 with fail
    have hx0 : (w.alloc (.cells #[.slice none 0 0, .slice none 0 0] 81)).heap[w.heap.size]? = some (.cells #[.slice none 0 0, .slice none 0 0] 81 (0, 0)) := heap_alloc_new _ _
    have hb0 : Below w.heap.size w (w.alloc (.cells #[.slice none 0 0, .slice none 0 0] 81)) := ba1 _ _
    have hz0 : (w.alloc (.cells #[.slice none 0 0, .slice none 0 0] 81)).heap.size = w.heap.size + 1 := by simp
    generalize w.alloc (.cells #[.slice none 0 0, .slice none 0 0] 81) = w0 at *
    obtain ⟨⟨r0, r1⟩, rf⟩ := two_block hx0
    have HX0 := Lib.hid hx0
    have HB0 := Lib.hid hb0
    have HZ0 := Lib.hid hz0
    clear hx0 hb0 hz0
    go_wp2_with fail
    exact bodyPost_ret (v := .tuple #[.agg #[.slice none 0 0, .slice none 0 0], .int .i64 3]) (by simp [results, Tryz.results37, go_sem, r0, r1]) rfl (looked_no hv.out (by decide) (set_fault HB0.out _ _))
  have t1 : decide ((4096 : Int) < (t.length : Int)) = false := by rw [decide_eq_false_iff_not]; omega
  go_enter Tryz.func37, Tryz.ntmps37
  go_upto_region 1 with fail
  have hx0 : (w.alloc (.cells #[.slice none 0 0, .slice none 0 0] 81)).heap[w.heap.size]? = some (.cells #[.slice none 0 0, .slice none 0 0] 81 (0, 0)) := heap_alloc_new _ _
  have hb0 : Below w.heap.size w (w.alloc (.cells #[.slice none 0 0, .slice none 0 0] 81)) := ba1 _ _
  have hz0 : (w.alloc (.cells #[.slice none 0 0, .slice none 0 0] 81)).heap.size = w.heap.size + 1 := by simp
  generalize w.alloc (.cells #[.slice none 0 0, .slice none 0 0] 81) = w0 at *
  obtain ⟨⟨r0, r1⟩, rf⟩ := two_block hx0
  have HX0 := Lib.hid hx0
  have HB0 := Lib.hid hb0
  have HZ0 := Lib.hid hz0
  clear hx0 hb0 hz0
  have hI0 := Lib.hid ((HI.out.below HB0.out (Nat.le_refl _)).mono HB0.out.size)
  have HBg := Lib.hid (begins_ok a cap t w0 hI0.out hl HOk.out)
  have HHas := Lib.hid (fun w (hE : TE w) (hI : IsNds w.heap.size w a t) => looked_has t a cap w hE hI (by omega))
  rcases hbg : beginsN t with _ | fr
  · have hv := Lib.hid (check_begins hl hbg)
    have HNo := Lib.hid (show (beginsN t).isSome = false by rw [hbg]; rfl)
    clear hbg
    go_wp2_with (go_at_call 80; (with_reducible refine HBg.out.mono ?_); rintro e w2 ⟨⟨v, ok, rfl, hok, _⟩, hb2⟩; have hok2 := hok.trans HNo.out; clear hok; subst hok2; have hx2 := (hb2.block _ (lt_of_heap HX0.out)).trans HX0.out; obtain ⟨⟨s0, s1⟩, sf⟩ := two_block hx2; have HB2 := Lib.hid (HB0.out.trans (hb2.mono HB0.out.size)); clear hb2 hx2)
    exact bodyPost_ret (v := .tuple #[.agg #[.slice none 0 0, .slice none 0 0], .int .i64 90]) (by simp [results, Tryz.results37, go_sem, s0, s1]) rfl (looked_no hv.out (by decide) (set_fault HB2.out _ _))
  · have HSo := Lib.hid (show (beginsN t).isSome = true by rw [hbg]; rfl)
    have HBe := Lib.hid hbg
    have HLen := Lib.hid (formed_of hbg)
    clear hbg
    go_upto_region 4 with (go_at_call 80; (with_reducible refine HBg.out.mono ?_); rintro e w2 ⟨⟨v, ok, rfl, hok, hrow⟩, hb2⟩; have hok2 := hok.trans HSo.out; clear hok; subst hok2; obtain ⟨fr2, hfr, hrow⟩ := hrow rfl; obtain rfl := Option.some.inj (HBe.out.symm.trans hfr); obtain ⟨g, capb, rfl, hg, hN⟩ := hrow.far (fun e => by have h1 := HLen.out.len; have h2 := HLen.out.pos; rw [e] at h1; simp at h1; omega); have HN := Lib.hid hN; have hx2 := (hb2.block _ (lt_of_heap HX0.out)).trans HX0.out; have HX2 := Lib.hid hx2; have HB2 := Lib.hid (HB0.out.trans (hb2.mono HB0.out.size)); have HW2 := Lib.hid (show WholeAt w2 a (some ⟨g, 0, none⟩) t fr from ⟨(hI0.out.below hb2 (Nat.le_refl _)).mono hb2.size, hN⟩); rw [HZ0.out] at hg; clear hb2 hrow hN hfr hx2)
    have HH2 := Lib.hid (HHas.out w2 (HE.out.below HB2.out) HW2.out.nds)
    rcases hall : t.all wellN with _ | _
    · have hv := Lib.hid (check_well hl hall)
      rw [hall] at HH2
      clear hall
      go_wp2_with (go_at_call 81; (with_reducible refine HH2.out.mono ?_); rintro e w3 ⟨rfl, hb3⟩; have hx3 := (hb3.block _ (lt_of_heap HX2.out)).trans HX2.out; obtain ⟨⟨s0, s1⟩, sf⟩ := two_block hx3; have HB3 := Lib.hid (HB2.out.trans (hb3.mono HB2.out.size)); clear hb3 hx3)
      exact bodyPost_ret (v := .tuple #[.agg #[.slice none 0 0, .slice none 0 0], .int .i64 90]) (by simp [results, Tryz.results37, go_sem, s0, s1]) rfl (looked_no hv.out (by decide) (set_fault HB3.out _ _))
    · have HAll := Lib.hid hall
      have hG := given_of hl hall HBe.out
      have HDp := Lib.hid (fun w (hI : IsNds w.heap.size w a t) => treeDeep_ok a cap t w hI hl HBe.out HOk.out)
      have HFt := Lib.hid (fun (b : Option Addr) (capb : Nat) k hk w hW => fits_ok a cap t b capb fr hG k hk w hW)
      have HG := Lib.hid hG
      rw [hall] at HH2
      clear hall hG
      go_upto_region 7 with (go_at_call 81; (with_reducible refine HH2.out.mono ?_); rintro e w3 ⟨rfl, hb3⟩; have hx3 := (hb3.block _ (lt_of_heap HX2.out)).trans HX2.out; have HX3 := Lib.hid hx3; have HB3 := Lib.hid (HB2.out.trans (hb3.mono HB2.out.size)); have HW3 := Lib.hid (HW2.out.below hb3); clear hb3 hx3)
      have hx4 : (w3.alloc (.cells #[.slice a t.length cap, .slice (some ⟨g, 0, none⟩) fr.length capb] 81)).heap[w3.heap.size]? = some (.cells #[.slice a t.length cap, .slice (some ⟨g, 0, none⟩) fr.length capb] 81 (0, 0)) := heap_alloc_new _ _
      have hb4 : Below w3.heap.size w3 (w3.alloc (.cells #[.slice a t.length cap, .slice (some ⟨g, 0, none⟩) fr.length capb] 81)) := ba1 _ _
      generalize w3.alloc (.cells #[.slice a t.length cap, .slice (some ⟨g, 0, none⟩) fr.length capb] 81) = w4 at *
      have hz4 := lt_of_heap hx4
      have HX4 := Lib.hid hx4
      have HX04 := Lib.hid ((hb4.block _ (lt_of_heap HX3.out)).trans HX3.out)
      have HB4 := Lib.hid (HB3.out.trans (hb4.mono HB3.out.size))
      have HW4 := Lib.hid (HW3.out.below hb4)
      have hr4 := lt_of_heap HX04.out
      clear hx4 hb4 rf r0 r1
      go_wp2_with fail
      go_loopg [29] t.length (fun m v29 wy => ∃ i : Nat, i ≤ t.length ∧ i + m = t.length ∧ v29 = .int .i64 (i : Int) ∧ Hid (∀ j, j < i → fitsN t fr j = true) ∧ Hid (Below w4.heap.size w4 wy))
      case atStart => exact ⟨0, by omega, by omega, rfl, Lib.hid (fun j h => by omega), Lib.hid (Below.refl _ _)⟩
      case round =>
        obtain ⟨i, hi, him, rfl, HY, HC⟩ := hrel
        have HBr := Lib.hid (HB4.out.trans (HC.out.mono HB4.out.size))
        have hxr := (HC.out.block _ hz4).trans HX4.out
        obtain ⟨⟨q0, q1⟩, _⟩ := two_block hxr
        have hxs := (HC.out.block _ hr4).trans HX04.out
        obtain ⟨⟨r0, r1⟩, rf⟩ := two_block hxs
        have HXS := Lib.hid hxs
        clear hxr hxs
        by_cases hlt : i < t.length
        · have HF := Lib.hid (HFt.out (some ⟨g, 0, none⟩) capb i hlt wr (HW4.out.below HC.out))
          rcases hf : fitsN t fr i with _ | _
          · have hv := Lib.hid (check_unfit hl HAll.out HBe.out hlt hf)
            rw [hf] at HF
            clear hf
            go_wp2_with (go_at_call 84; (with_reducible refine HF.out.mono ?_); rintro e w5 ⟨rfl, hb5⟩; have hx5 := (hb5.block _ (lt_of_heap HXS.out)).trans HXS.out; obtain ⟨⟨s0, s1⟩, sf⟩ := two_block hx5; have HB5 := Lib.hid (HBr.out.trans (hb5.mono HBr.out.size)); clear hb5 hx5)
            exact bodyPost_ret (v := .tuple #[.agg #[.slice none 0 0, .slice none 0 0], .int .i64 90]) (by simp [results, Tryz.results37, go_sem, s0, s1]) rfl (looked_no hv.out (by decide) (set_fault HB5.out _ _))
          · have HY2 := Lib.hid (fits_next HY.out hf)
            rw [hf] at HF
            clear hf HY
            go_wp2_with (go_at_call 84; (with_reducible refine HF.out.mono ?_); rintro e w5 ⟨rfl, hb5⟩; have HB5 := Lib.hid (HC.out.trans (hb5.mono HC.out.size)); clear hb5)
            go_roundg (t.length - (i + 1))
            case measure => omega
            case rel => exact ⟨i + 1, by omega, by omega, by rw [Int.natCast_add]; rfl, HY2, HB5⟩
        · obtain rfl : i = t.length := by omega
          have hdp := Lib.hid (check_deep hl HAll.out HBe.out HY.out)
          have HWr := Lib.hid (HW4.out.below HC.out)
          have HD := Lib.hid (HDp.out wr HWr.out.nds)
          clear HY
          generalize deepN t = d at *
          by_cases h48 : 48 < d
          · have t2 : decide ((48 : Int) < (d : Int)) = true := by rw [decide_eq_true_iff]; omega
            have hv := Lib.hid (show checkN9 t = 3 by rw [hdp.out, if_pos h48])
            clear h48
            go_wp2_with (go_at_call 85; (with_reducible refine HD.out.mono ?_); rintro e w5 ⟨rfl, hb5⟩; have hx5 := (hb5.block _ (lt_of_heap HXS.out)).trans HXS.out; obtain ⟨⟨s0, s1⟩, sf⟩ := two_block hx5; have HB5 := Lib.hid (HBr.out.trans (hb5.mono HBr.out.size)); clear hb5 hx5)
            exact bodyPost_ret (v := .tuple #[.agg #[.slice none 0 0, .slice none 0 0], .int .i64 3]) (by simp [results, Tryz.results37, go_sem, s0, s1]) rfl (looked_no hv.out (by decide) (set_fault HB5.out _ _))
          · have t2 : decide ((48 : Int) < (d : Int)) = false := by rw [decide_eq_false_iff_not]; omega
            have hv := Lib.hid (show checkN9 t = 0 by rw [hdp.out, if_neg h48])
            clear h48
            have hqr := lt_of_heap ((HC.out.block _ hz4).trans HX4.out)
            go_wp2_with (go_at_call 85; (with_reducible refine HD.out.mono ?_); rintro e w5 ⟨rfl, hb5⟩; have hx5 := (hb5.block _ (lt_of_heap HXS.out)).trans HXS.out; obtain ⟨⟨s0, s1⟩, sf⟩ := two_block hx5; have y0 := q0; have y1 := q1; rw [← hb5.cell hqr] at y0 y1; have HB5 := Lib.hid (HBr.out.trans (hb5.mono HBr.out.size)); have HW5 := Lib.hid (HWr.out.below hb5); clear hb5 hx5)
            exact bodyPost_ret (v := .tuple #[.agg #[.slice a t.length cap, .slice (some ⟨g, 0, none⟩) fr.length capb], .int .i64 0]) (by simp [results, Tryz.results37, go_sem, s0, s1]) rfl (looked_yes hv.out HBe.out HG.out (whole_set (whole_set HW5.out HI.out (by omega) _ _) HI.out (by omega) _ _) (fun g' off' e => by cases e; omega) (set_fault HB5.out _ _))
end Go.Proofs.YtkokdafkjjcgoaaGreatDoor
namespace Go.Proofs.YtkokdafkjjcgoaaGreatDoor
open Go.RowKit

theorem infoNd : (Tryz.prog.info? 36).map (fun i => (i.zero, i.size, i.bytes)) = some (some (.agg #[.int .i64 0, .int .i64 0, .int .i64 0, .int .i64 0, .string ⟨#[]⟩, .string ⟨#[]⟩]), 6, 64) := by kernel_rfl
theorem nd_len (x : Nd) : (ndCells x).length = 6 := rfl
theorem nd_one (t : List Nd) : ∀ u ∈ t.flatMap ndCells, u.oneCell' = true := fun u hu => by
  obtain ⟨x, _, hx⟩ := List.mem_flatMap.1 hu
  simp only [ndCells, List.mem_cons, List.not_mem_nil, or_false] at hx
  rcases hx with rfl | rfl | rfl | rfl | rfl | rfl <;> rfl
/-- nodes, in a row of one's own -/
def NdRow (w : World) (base : Nat) (v : Value) (t : List Nd) : Prop := w.ownsRow base 36 6 v t.length (t.flatMap ndCells)
theorem nil_row (w : World) {base : Nat} (hb : base ≤ w.heap.size) : (w.alloc (.cells #[] 36)).ownsRow base 36 6 (.slice (some ⟨w.heap.size, 0, none⟩) 0 0) 0 [] := World.ownsRow_lit w #[] 0 hb (by decide) rfl

set_option maxHeartbeats 4000000 in
theorem copyTree_ok (a : Option Addr) (cap : Nat) (t : List Nd) (w : World) (hI : IsNds w.heap.size w a t) (hz : t.length * 64 ≤ 140737488351232) (hnil : a = none → t = [] ∧ cap = 0) :
    Calls Tryz.prog 9 #[.slice a t.length cap] w fun e w' => (∃ v, e = .returned v ∧ NdRow w' w.heap.size v t) ∧ Below w.heap.size w w' := by
  obtain ⟨i0, hi, hz0, hz1, hz2⟩ := info_parts infoNd
  have HI0 := Lib.hid (And.intro hi (And.intro hz0 (And.intro hz1 hz2)))
  clear hi hz0 hz1 hz2
  cases a with
  | none =>
    obtain ⟨rfl, rfl⟩ := hnil rfl
    clear hI hnil
    go_enter Tryz.func9, Tryz.ntmps9
    go_wp2_with (at_builtin; go_loud (refine wpList_append_own_none rfl _ _ _ rfl w.heap.size 36 i0 6 Tryz.underlying23 HI0.out.1 _ 0 [] rfl (nil_row _ (Nat.le_refl _)) rfl ?_))
    go_ret
    exact ⟨⟨_, rfl, nil_row _ (Nat.le_refl _)⟩, ba1 _ _⟩
  | some ad =>
    have HI := Lib.hid hI
    have HL := Lib.hid (flat_len nd_len t)
    clear hI hnil
    go_enter Tryz.func9, Tryz.ntmps9
    go_wp2_with (at_builtin; go_loud (refine wpList_append_own _ rfl _ _ _ rfl w.heap.size 36 i0 _ 6 64 Tryz.underlying23 HI0.out.1 HI0.out.2.1 HI0.out.2.2.1 HI0.out.2.2.2 rfl (by decide) _ 0 [] rfl (nil_row _ (Nat.le_refl _)) ad t.length cap (t.flatMap ndCells) rfl HL.out (sl_news nd_len (HI.out.below (ba1 _ _) (Nat.le_refl _))) (nd_one t) (by unfold maxLen; omega) (by omega) (ba1 _ _).size ?_))
    intro v' w' hown hgrow _
    go_wp2_with fail
    go_ret
    refine ⟨⟨v', rfl, by unfold NdRow; simpa using hown⟩, (ba1 _ _).grown hgrow (ba1 _ _).size (fun k hk => by simp [Value.ownBlock] at hk; omega)⟩
set_option maxRecDepth 100000 in
set_option maxHeartbeats 4000000 in
theorem clone_ok (bb oo : Nat) (cap : Nat) (t : List Nd) (w : World) (hI : IsNds w.heap.size w (some ⟨bb, oo, none⟩) t) (hz : t.length * 64 ≤ 140737488351232) :
    Calls Tryz.prog 44 #[.slice (some ⟨bb, oo, none⟩) t.length cap] w fun e w' => (∃ v, e = .returned v ∧ NdRow w' w.heap.size v t) ∧ Below w.heap.size w w' := by
  obtain ⟨i0, hi, hz0, hz1, hz2⟩ := info_parts infoNd
  have HI0 := Lib.hid (And.intro hi (And.intro hz0 (And.intro hz1 hz2)))
  clear hi hz0 hz1 hz2
  have HI := Lib.hid hI
  have HL := Lib.hid (flat_len nd_len t)
  clear hI
  have hnl := fun wx => Lib.run_eql_slice_nil (P := Tryz.prog) wx 23 36 (some ⟨bb, oo, none⟩) t.length cap 0 0 Tryz.underlying23
  simp only [Option.isNone_some] at hnl
  go_enter Tryz.func44, Tryz.ntmps44
  go_wp2_with (at_builtin; go_loud (refine wpList_append_own _ rfl _ _ _ rfl w.heap.size 36 i0 _ 6 64 Tryz.underlying23 HI0.out.1 HI0.out.2.1 HI0.out.2.2.1 HI0.out.2.2.2 rfl (by decide) _ 0 [] rfl (nil_row _ (Nat.le_refl _)) ⟨bb, oo, none⟩ t.length cap (t.flatMap ndCells) rfl HL.out (sl_news nd_len (HI.out.below (ba1 _ _) (Nat.le_refl _))) (nd_one t) (by unfold maxLen; omega) (by omega) (ba1 _ _).size ?_))
  intro v' w' hown hgrow _
  go_wp2_with fail
  go_ret
  refine ⟨⟨v', rfl, by unfold NdRow; simpa using hown⟩, (ba1 _ _).grown hgrow (ba1 _ _).size (fun k hk => by simp [Value.ownBlock] at hk; omega)⟩
end Go.Proofs.YtkokdafkjjcgoaaGreatDoor
namespace Go.Proofs.YtkokdafkjjcgoaaGreatDoor
open Go.RowKit

set_option maxHeartbeats 4000000 in
theorem sameInts_ok (a b : Option Addr) (ca cb : Nat) (L : List Nat) (w : World) (hA : IsNats w.heap.size w a L) (hB : IsNats w.heap.size w b L) (hl : L.length ≤ 4096) :
    Calls Tryz.prog 14 #[.slice a L.length ca, .slice b L.length cb] w fun e w' => e = .returned (.bool true) ∧ Below w.heap.size w w' := by
  have HA := Lib.hid hA
  have HB := Lib.hid hB
  have hli : (L.length : Int) ≤ 4096 := by omega
  have hne : ((L.length : Int) != (L.length : Int)) = false := by simp
  clear hA hB
  go_enter Tryz.func14, Tryz.ntmps14
  go_wp2_with fail
  go_loopg [5] L.length (fun m v5 wy => ∃ (i : Nat), i ≤ L.length ∧ i + m = L.length ∧ v5 = .int .i64 (i : Int) ∧ Hid (Below w.heap.size w wy))
  case atStart => exact ⟨0, by omega, by omega, rfl, Lib.hid (Below.refl _ _)⟩
  case round =>
    obtain ⟨i, hi, him, rfl, HW⟩ := hrel
    by_cases hlt : i < L.length
    · obtain ⟨b1, o1, ha, hb1, c1⟩ := nats_at HA.out hlt
      obtain ⟨b2, o2, hb, hb2, c2⟩ := nats_at HB.out hlt
      subst ha hb
      rw [← HW.out.cell hb1] at c1
      rw [← HW.out.cell hb2] at c2
      generalize L[i] = q at *
      have t1 : ((q : Int) != (q : Int)) = false := by simp
      have hi0 : (0 : Int) ≤ (i : Int) := by omega
      have hi1 : (i : Int) < (L.length : Int) := by omega
      go_wp2_with fail
      go_quiet (fail)
      go_wp2_with fail
      go_roundg (L.length - (i + 1))
      case measure => omega
      case rel => exact ⟨i + 1, by omega, by omega, by rw [Int.natCast_add]; rfl, Lib.hid (blw_drewN HW.out _)⟩
    · obtain rfl : i = L.length := by omega
      go_wp2_with fail
      go_ret
      exact ⟨rfl, HW.out⟩
set_option maxHeartbeats 4000000 in
theorem sameTree_ok (a b : Option Addr) (ca cb : Nat) (L : List Nd) (w : World) (hA : IsNds w.heap.size w a L) (hB : IsNds w.heap.size w b L) (hl : L.length * 64 ≤ 140737488351232) :
    Calls Tryz.prog 17 #[.slice a L.length ca, .slice b L.length cb] w fun e w' => e = .returned (.bool true) ∧ Below w.heap.size w w' := by
  have HA := Lib.hid hA
  have HB := Lib.hid hB
  have hli : (L.length : Int) ≤ 2199023255488 := by omega
  have hne : ((L.length : Int) != (L.length : Int)) = false := by simp
  clear hA hB
  go_enter Tryz.func17, Tryz.ntmps17
  go_wp2_with fail
  go_loopg [5] L.length (fun m v5 wy => ∃ (i : Nat), i ≤ L.length ∧ i + m = L.length ∧ v5 = .int .i64 (i : Int) ∧ Hid (Below w.heap.size w wy))
  case atStart => exact ⟨0, by omega, by omega, rfl, Lib.hid (Below.refl _ _)⟩
  case round =>
    obtain ⟨i, hi, him, rfl, HW⟩ := hrel
    by_cases hlt : i < L.length
    · obtain ⟨b1, o1, ha, hb1, c0, c1, c2, c3, c4, c5⟩ := nds_at HA.out hlt
      obtain ⟨b2, o2, hb, hb2, e0, e1, e2, e3, e4, e5⟩ := nds_at HB.out hlt
      subst ha hb
      rw [← HW.out.cell hb1] at c0 c1 c2 c3 c4 c5
      rw [← HW.out.cell hb2] at e0 e1 e2 e3 e4 e5
      generalize L[i] = x at *
      obtain ⟨kk, n, p, ii, s, ty⟩ := x
      simp only at c0 c1 c2 c3 c4 c5 e0 e1 e2 e3 e4 e5
      have t1 : ∀ z : Int, (z != z) = false := by simp
      have t2 : ∀ z : List UInt8, (z != z) = false := by simp
      have t3 : ∀ z : Int, (z == z) = true := by simp
      have t4 : ∀ z : List UInt8, (z == z) = true := by simp
      have hi0 : (0 : Int) ≤ (i : Int) := by omega
      have hi1 : (i : Int) < (L.length : Int) := by omega
      go_wp2_with fail
      go_quiet (fail)
      go_wp2_with fail
      go_roundg (L.length - (i + 1))
      case measure => omega
      case rel => exact ⟨i + 1, by omega, by omega, by rw [Int.natCast_add]; rfl, Lib.hid (blw_drewN HW.out _)⟩
    · obtain rfl : i = L.length := by omega
      go_wp2_with fail
      go_ret
      exact ⟨rfl, HW.out⟩
end Go.Proofs.YtkokdafkjjcgoaaGreatDoor
