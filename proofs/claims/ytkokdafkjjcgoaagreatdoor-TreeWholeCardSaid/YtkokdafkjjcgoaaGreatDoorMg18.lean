/- What is wrong with a type, structs being known: the program. · What is wrong with a type, no structs being given: the program. · Maps from texts to numbers, by what is looked up in them; one more name that is known. · Structs that are known, while one more is put behind them: each part by itself. · A region that draws its order: an operation that leaves the world as it is (a load, a callee that writes nothing) is taken first, where those operations that write what it reads wait for it. Nothing of the program. · Structs are looked at one by one: the program. -/
import Derived.Test.YtkokdafkjjcgoaaGreatDoorMg17
import Derived.Deep.AppendLies
import Derived.OrdersHeld
import Derived.StillTail
import Derived.RegionTactic
import Derived.Deep.RegionLaw
import Derived.StillTailTactics
import Derived.Deep.DeepCutAuto
import Derived.Laws.OwnMore
namespace Go.Proofs.YtkokdafkjjcgoaaGreatDoor
open Go.RowKit

theorem depthS_some {s : ByteArray} {t : Ty} (h : tyS s = some t) : depthS s = deepT t := by unfold depthS; rw [h]
theorem checkS_none {K : List Kn} {s : ByteArray} (h : tyS s = none) : checkS K s = 2 := by unfold checkS; rw [h]
theorem checkS_some {K : List Kn} {s : ByteArray} {t : Ty} (h : tyS s = some t) : checkS K s = checkT K t := by unfold checkS; rw [h]
section
variable {B b mb : Nat} {lv sv av : Value} {mv : List Value} {K : List Kn}
set_option maxHeartbeats 2000000 in
theorem check_ok (s : ByteArray) (w : World) (hE : TE w) (hK : KnAt B w b mb lv sv av mv K) (hF : FitK K) :
    Calls Tryz.prog 170 #[.pointer (some ⟨b, 0, none⟩), .string s] w fun e w' => e = .returned (.int .i64 (checkS K s)) ∧ Below w.heap.size w w' := by
  have HE := Lib.hid hE
  have HK := Lib.hid hK
  have HD := Lib.hid (depth_ok s w hE.keys hE.lt)
  rcases ht : tyS s with _ | t
  · have hfin := Lib.hid (checkS_none (K := K) ht)
    rw [show depthS s = 0 by unfold depthS; rw [ht]] at HD
    clear hE hK ht
    go_enter Tryz.func170, Tryz.ntmps170
    go_wp2_with (go_at_call 180; refine HD.out.mono ?_)
    rintro e w1 ⟨rfl, hb1⟩
    go_wp2_with fail
    go_ret
    exact ⟨by rw [hfin.out]; rfl, hb1⟩
  · obtain ⟨es, hr, hl⟩ := tyS_some.1 ht
    rw [depthS_some ht] at HD
    have hpos := deepT_pos t
    have HCh := Lib.hid (checkS_some (K := K) ht)
    subst es
    have hsh := shape_all _ t (Nat.le_refl _) hr hl
    unfold ShapeC at hsh
    have HSh := Lib.hid hsh
    have HTh := Lib.hid (fun w hE hK => there_ok (B := B) (b := b) (mb := mb) (lv := lv) (sv := sv) (av := av) (mv := mv) (K := K) t w hr hl hE hK)
    have hsz := fun h => sized_all (B := B) (b := b) (mb := mb) (lv := lv) (sv := sv) (av := av) (mv := mv) hF _ t (Nat.le_refl _) hr hl h
    unfold SizedC at hsz
    have HSz := Lib.hid hsz
    have t0 : ((deepT t : Int) == 0) = false := by rw [beq_eq_false_iff_ne]; omega
    generalize tyB t = s at *
    clear hE hK ht hr hl hsh hsz hF hpos
    by_cases hdp : 48 < deepT t
    · have hfin := Lib.hid (show checkS K s = 3 by rw [HCh.out, checkT, if_pos hdp])
      have t1 : (48 : Int) < (deepT t : Int) := by omega
      generalize (deepT t : Int) = d at *
      clear hdp
      go_enter Tryz.func170, Tryz.ntmps170
      go_wp2_with (go_at_call 180; (with_reducible refine HD.out.mono ?_))
      rintro e w1 ⟨rfl, hb1⟩
      go_wp2_with fail
      go_ret
      exact ⟨by rw [hfin.out]; rfl, hb1⟩
    · have t1 : (deepT t : Int) ≤ 48 := by omega
      rcases h1 : shapeT t with _ | _
      · have H1 := Lib.hid h1
        have hfin := Lib.hid (show checkS K s = 5 by rw [HCh.out, checkT, if_neg hdp, if_pos h1])
        clear h1 hdp
        generalize (deepT t : Int) = d at *
        go_enter Tryz.func170, Tryz.ntmps170
        go_wp2_with (go_at_call 180; (with_reducible refine HD.out.mono ?_))
        rintro e w1 ⟨rfl, hb1⟩
        have HB1 := Lib.hid hb1
        clear hb1
        have HS1 := Lib.hid (HSh.out _ (HE.out.below HB1.out))
        rw [H1.out] at HS1
        go_wp2_with (go_at_call 201; (with_reducible refine HS1.out.mono ?_))
        rintro e w2 ⟨rfl, hb2⟩
        have HB2 := Lib.hid (HB1.out.trans (hb2.mono HB1.out.size))
        clear hb2
        go_wp2_with fail
        go_ret
        exact ⟨by rw [hfin.out]; rfl, HB2.out⟩
      · have H1 := Lib.hid h1
        rcases h2 : thereT K t with _ | _
        · have H2 := Lib.hid h2
          have hfin := Lib.hid (show checkS K s = 4 by rw [HCh.out, checkT, if_neg hdp, if_neg (by rw [h1]; simp), if_pos h2])
          clear h1 h2 hdp
          generalize (deepT t : Int) = d at *
          go_enter Tryz.func170, Tryz.ntmps170
          go_wp2_with (go_at_call 180; (with_reducible refine HD.out.mono ?_))
          rintro e w1 ⟨rfl, hb1⟩
          have HB1 := Lib.hid hb1
          clear hb1
          have HS1 := Lib.hid (HSh.out _ (HE.out.below HB1.out))
          rw [H1.out] at HS1
          go_wp2_with (go_at_call 201; (with_reducible refine HS1.out.mono ?_))
          rintro e w2 ⟨rfl, hb2⟩
          have HB2 := Lib.hid (HB1.out.trans (hb2.mono HB1.out.size))
          clear hb2
          have HT2 := Lib.hid (HTh.out _ (HE.out.below HB2.out) (HK.out.below HB2.out))
          rw [H2.out] at HT2
          go_wp2_with (go_at_call 202; (with_reducible refine HT2.out.mono ?_))
          rintro e w3 ⟨rfl, hb3⟩
          have HB3 := Lib.hid (HB2.out.trans (hb3.mono HB2.out.size))
          clear hb3
          go_wp2_with fail
          go_ret
          exact ⟨by rw [hfin.out]; rfl, HB3.out⟩
        · have H2 := Lib.hid h2
          rcases h3 : sizedT K t with _ | _
          · have H3 := Lib.hid h3
            have hfin := Lib.hid (show checkS K s = 3 by rw [HCh.out, checkT, if_neg hdp, if_neg (by rw [h1]; simp), if_neg (by rw [h2]; simp), if_pos h3])
            clear h1 h2 h3 hdp
            generalize (deepT t : Int) = d at *
            go_enter Tryz.func170, Tryz.ntmps170
            go_wp2_with (go_at_call 180; (with_reducible refine HD.out.mono ?_))
            rintro e w1 ⟨rfl, hb1⟩
            have HB1 := Lib.hid hb1
            clear hb1
            have HS1 := Lib.hid (HSh.out _ (HE.out.below HB1.out))
            rw [H1.out] at HS1
            go_wp2_with (go_at_call 201; (with_reducible refine HS1.out.mono ?_))
            rintro e w2 ⟨rfl, hb2⟩
            have HB2 := Lib.hid (HB1.out.trans (hb2.mono HB1.out.size))
            clear hb2
            have HT2 := Lib.hid (HTh.out _ (HE.out.below HB2.out) (HK.out.below HB2.out))
            rw [H2.out] at HT2
            go_wp2_with (go_at_call 202; (with_reducible refine HT2.out.mono ?_))
            rintro e w3 ⟨rfl, hb3⟩
            have HB3 := Lib.hid (HB2.out.trans (hb3.mono HB2.out.size))
            clear hb3
            have HZ3 := Lib.hid (HSz.out H1.out _ (HE.out.below HB3.out) (HK.out.below HB3.out))
            rw [H3.out] at HZ3
            go_wp2_with (go_at_call 203; (with_reducible refine HZ3.out.mono ?_))
            rintro e w4 ⟨rfl, hb4⟩
            have HB4 := Lib.hid (HB3.out.trans (hb4.mono HB3.out.size))
            clear hb4
            go_wp2_with fail
            go_ret
            exact ⟨by rw [hfin.out]; rfl, HB4.out⟩
          · have H3 := Lib.hid h3
            have hfin := Lib.hid (show checkS K s = 0 by rw [HCh.out, checkT, if_neg hdp, if_neg (by rw [h1]; simp), if_neg (by rw [h2]; simp), if_neg (by rw [h3]; simp)])
            clear h1 h2 h3 hdp
            generalize (deepT t : Int) = d at *
            go_enter Tryz.func170, Tryz.ntmps170
            go_wp2_with (go_at_call 180; (with_reducible refine HD.out.mono ?_))
            rintro e w1 ⟨rfl, hb1⟩
            have HB1 := Lib.hid hb1
            clear hb1
            have HS1 := Lib.hid (HSh.out _ (HE.out.below HB1.out))
            rw [H1.out] at HS1
            go_wp2_with (go_at_call 201; (with_reducible refine HS1.out.mono ?_))
            rintro e w2 ⟨rfl, hb2⟩
            have HB2 := Lib.hid (HB1.out.trans (hb2.mono HB1.out.size))
            clear hb2
            have HT2 := Lib.hid (HTh.out _ (HE.out.below HB2.out) (HK.out.below HB2.out))
            rw [H2.out] at HT2
            go_wp2_with (go_at_call 202; (with_reducible refine HT2.out.mono ?_))
            rintro e w3 ⟨rfl, hb3⟩
            have HB3 := Lib.hid (HB2.out.trans (hb3.mono HB2.out.size))
            clear hb3
            have HZ3 := Lib.hid (HSz.out H1.out _ (HE.out.below HB3.out) (HK.out.below HB3.out))
            rw [H3.out] at HZ3
            go_wp2_with (go_at_call 203; (with_reducible refine HZ3.out.mono ?_))
            rintro e w4 ⟨rfl, hb4⟩
            have HB4 := Lib.hid (HB3.out.trans (hb4.mono HB3.out.size))
            clear hb4
            go_wp2_with fail
            go_ret
            exact ⟨by rw [hfin.out]; rfl, HB4.out⟩
end

end Go.Proofs.YtkokdafkjjcgoaaGreatDoor
namespace Go.Proofs.YtkokdafkjjcgoaaGreatDoor
open Go.RowKit Go.Maps

theorem names_nil {w : World} : NamesAt (w.alloc (.map #[] 0)) w.heap.size [] :=
  ⟨.map [], World.ownsMap_made _ _ _ _, fun _ => ⟨rfl, rfl⟩⟩
theorem knAt_nil {B : Nat} {w : World} {b mb : Nat} (hblk : w.heap[b]? = some (.cells #[.slice none 0 0, .map (some mb), .slice none 0 0, .slice none 0 0] 214 (0, 0))) (hb : B ≤ b ∧ B ≤ mb ∧ b ≠ mb) (hn : NamesAt w mb []) :
    KnAt B w b mb (.slice none 0 0) (.slice none 0 0) (.slice none 0 0) [] [] :=
  ⟨hblk, hb, hn, World.ownsRow_nil _ _ _ _, World.ownsRow_nil _ _ _ _, World.ownsRow_nil _ _ _ _, rfl, fun k => ⟨(fun h => by cases h), (fun h => by cases h), (fun h => by cases h)⟩⟩
theorem fitK_nil : FitK [] := ⟨by decide, fun k h => by cases h⟩

theorem two_block {w : World} {b : Nat} {a0 a1 : Value} {T : TypeId} (h : w.heap[b]? = some (.cells #[a0, a1] T (0, 0))) :
    (w.cell? ⟨b, 0, none⟩ = some a0 ∧ w.cell? ⟨b, 1, none⟩ = some a1) ∧ ∀ j, w.frozen? ⟨b, j, none⟩ = false := by
  refine ⟨⟨?_, ?_⟩, fun j => ?_⟩
  · simp [World.cell?, h]
  · simp [World.cell?, h]
  · simp [World.frozen?, h]
theorem set_fault {w0 w : World} (h : Below w0.heap.size w0 w) (v v' : Value) : Below w0.heap.size w0 ((w.setCell ⟨w0.heap.size, 0, none⟩ v).setCell ⟨w0.heap.size, 1, none⟩ v') :=
  (h.setCell (Nat.le_refl _) _).setCell (Nat.le_refl _) _
theorem NamesAt.other {w : World} {b : Nat} {K : List Kn} (h : NamesAt w b K) (a : Addr) (ha : b ≠ a.block) (v : Value) : NamesAt (w.setCell a v) b K := by
  obtain ⟨D, hD, hv⟩ := h
  exact ⟨D, hD.setCell ha v, hv⟩
/-- the world that learn leaves when no structs are given -/
def learntW (w : World) : World := ((w.alloc (.cells #[.int .i64 0, .int .i64 0] 68)).alloc (.map #[] 0)).alloc (.cells #[.slice none 0 0, .map (some (w.heap.size + 1)), .slice none 0 0, .slice none 0 0] 214)
theorem learntW_eq (w : World) : ((w.alloc (.cells #[.int .i64 0, .int .i64 0] 68)).alloc (.map #[] 0)).alloc (.cells #[.slice none 0 0, .map (some (w.heap.size + 1)), .slice none 0 0, .slice none 0 0] 214) = learntW w := rfl
theorem learntW_below (w : World) : Below w.heap.size w (learntW w) :=
  (((Below.refl _ _).alloc (Nat.le_refl _) _).alloc (by simp) _).alloc (by simp; omega) _
theorem learntW_at (w : World) : (learntW w).heap[w.heap.size]? = some (.cells #[.int .i64 0, .int .i64 0] 68 (0, 0)) := by
  have h : Below (w.heap.size + 1) (w.alloc (.cells #[.int .i64 0, .int .i64 0] 68)) (learntW w) :=
    ((Below.refl _ _).alloc (by simp) _).alloc (by simp) _
  rw [h.block _ (by omega)]
  exact heap_alloc_new _ _
theorem learntW_kn (w : World) : KnAt w.heap.size (learntW w) (w.heap.size + 2) (w.heap.size + 1) (.slice none 0 0) (.slice none 0 0) (.slice none 0 0) [] [] := by
  have e : ((w.alloc (.cells #[.int .i64 0, .int .i64 0] 68)).alloc (.map #[] 0)).heap.size = w.heap.size + 2 := by simp
  refine knAt_nil (by rw [← e]; exact heap_alloc_new _ _) ⟨by omega, by omega, by omega⟩ ?_
  have h := names_nil (w := w.alloc (.cells #[.int .i64 0, .int .i64 0] 68))
  rw [World.size_alloc] at h
  refine h.below (?_ : Below _ _ (learntW w))
  rw [learntW]
  exact (Below.refl _ _).alloc (Nat.le_refl _) _

theorem learntW_kn' (w : World) (v v' : Value) : KnAt w.heap.size (((learntW w).setCell ⟨w.heap.size, 0, none⟩ v).setCell ⟨w.heap.size, 1, none⟩ v') (w.heap.size + 2) (w.heap.size + 1) (.slice none 0 0) (.slice none 0 0) (.slice none 0 0) [] [] := by
  have h := learntW_kn w
  refine knAt_nil ?_ h.base ((h.names.other _ (by simp) _).other _ (by simp) _)
  rw [Below.heap_setCell _ _ _ _ (by simp), Below.heap_setCell _ _ _ _ (by simp)]
  exact h.blk

set_option maxHeartbeats 1000000 in
theorem learn_nil (a : Option Addr) (cap : Nat) (w : World) : Calls Tryz.prog 123 #[.slice a 0 cap] w fun e w' => ∃ b mb, e = .returned (.tuple #[.pointer (some ⟨b, 0, none⟩), .agg #[.int .i64 0, .int .i64 0]]) ∧ w.heap.size ≤ b ∧ KnAt w.heap.size w' b mb (.slice none 0 0) (.slice none 0 0) (.slice none 0 0) [] [] ∧ Below w.heap.size w w' := by
  have hmm := @run_makeMap Tryz.prog
  have hat := learntW_at w
  obtain ⟨⟨d0, d1⟩, fd⟩ := two_block hat
  have fd0 := fd 0
  have fd1 := fd 1
  have hfin : ∀ v v', KnAt w.heap.size (((learntW w).setCell ⟨w.heap.size, 0, none⟩ v).setCell ⟨w.heap.size, 1, none⟩ v') (w.heap.size + 2) (w.heap.size + 1) (.slice none 0 0) (.slice none 0 0) (.slice none 0 0) [] [] := fun v v' => learntW_kn' w v v'
  have HF := Lib.hid hfin
  have HB := Lib.hid fun v v' => set_fault (learntW_below w) v v'
  clear hfin hat fd
  go_enter Tryz.func123, Tryz.ntmps123
  go_wp2_with fail
  rw [learntW_eq]
  generalize learntW w = w1 at *
  go_loop [17] (fun i => i = .int .i64 0) (fun _ => 0)
  case atStart => rfl
  case round =>
    obtain rfl := hrel
    go_wp2_with fail
    exact bodyPost_ret (v := .tuple #[.pointer (some ⟨w.heap.size + 2, 0, none⟩), .agg #[.int .i64 0, .int .i64 0]]) (by simp [results, Tryz.results123, go_sem, d0, d1]) rfl ⟨_, rfl, by omega, ⟨_, HF.out _ _⟩, HB.out _ _⟩

set_option maxHeartbeats 1000000 in
/-- types.Check, no structs being given -/
theorem checkNil_ok (s : ByteArray) (w : World) (hE : TE w) : Calls Tryz.prog 125 #[.string s, .slice none 0 0] w fun e w' => e = .returned (.int .i64 (checkS [] s)) ∧ Below w.heap.size w w' := by
  have HE := Lib.hid hE
  have HL := Lib.hid (learn_nil none 0 w)
  clear hE
  go_enter Tryz.func125, Tryz.ntmps125
  go_wp2_with (go_at_call 123; (with_reducible refine HL.out.mono ?_))
  rintro e w1 ⟨b, mb, rfl, hge, hk, hb1⟩
  have HB1 := Lib.hid hb1
  have hg : Below (w1.heap.size) w1 (w1.alloc (.cells #[.int .i64 0, .int .i64 0] 68)) := (Below.refl _ _).alloc (Nat.le_refl _) _
  have HC := Lib.hid (check_ok s _ (HE.out.below (hb1.trans (hg.mono hb1.size))) (hk.below hg) fitK_nil)
  clear hk hb1 hg
  go_wp2_with (go_at_call 170; (with_reducible refine HC.out.mono ?_))
  rintro e w2 ⟨rfl, hb2⟩
  go_wp2_with fail
  go_ret
  exact ⟨rfl, HB1.out.trans ((((Below.refl _ _).alloc (Nat.le_refl _) _).trans (hb2.mono (by simp))).mono HB1.out.size)⟩

end Go.Proofs.YtkokdafkjjcgoaaGreatDoor
namespace Go.Proofs.YtkokdafkjjcgoaaGreatDoor
open Go.RowKit Go.Maps

/-- block b is a map of at most n names that gives f -/
def MapF (w : World) (b n : Nat) (f : List UInt8 → Int × Bool) : Prop := ∃ D : DataW Unit, w.ownsMap Tryz.prog 9 (plainElem Tryz.prog 3) b n D ∧
  ∀ s : List UInt8, has D (.string s) = (f s).2 ∧ D.atKey (.string s) (.lit (.int .i64 0)) = .lit (.int .i64 (f s).1)
theorem NamesAt.def {w : World} {b : Nat} {K : List Kn} : NamesAt w b K ↔ MapF w b K.length (lookV K) := Iff.rfl
theorem MapF.same {w : World} {b n : Nat} {f g : List UInt8 → Int × Bool} (h : MapF w b n f) (e : ∀ s, f s = g s) : MapF w b n g := by
  obtain ⟨D, hD, hv⟩ := h
  exact ⟨D, hD, fun s => by rw [← e s]; exact hv s⟩
theorem MapF.look {w : World} {b n : Nat} {f : List UInt8 → Int × Bool} (h : MapF w b n f) {s : ByteArray} (hs : s.size ≤ maxLen) :
    (Instr.lookup 212 (.map (some b)) (.string s) false).run Tryz.prog w = .ok (.int .i64 (f s.data.toList).1) w := by
  obtain ⟨D, hD, hv⟩ := h
  have hkey := Go.WideMaps.keyOf_string_mk (P := Tryz.prog) Tryz.underlying9 hs
  obtain ⟨c, hrun, hat, _⟩ := hD.lookup_int keyedS Tryz.underlying212 Tryz.underlying3 (zeroI w) hkey
  obtain ⟨_, h2⟩ := hv s.data.toList
  rw [h2] at hat
  simp only [DataW.lit.injEq, Lit.int.injEq, true_and] at hat
  rw [hat]; exact hrun
theorem MapF.other {w : World} {b n : Nat} {f : List UInt8 → Int × Bool} (h : MapF w b n f) (a : Addr) (ha : b ≠ a.block) (v : Value) : MapF (w.setCell a v) b n f := by
  obtain ⟨D, hD, hv⟩ := h
  exact ⟨D, hD.setCell ha v, hv⟩
theorem MapF.below {w w' : World} {b n : Nat} {f : List UInt8 → Int × Bool} (h : MapF w b n f) (hb : Below w.heap.size w w') : MapF w' b n f := by
  obtain ⟨D, hD, hv⟩ := h
  exact ⟨D, hD.kept (row := none) ⟨hb.os, hb.tape, hb.output, hb.size, fun k hk _ => hb.block k hk⟩ (by simp), hv⟩
theorem MapF.store {w : World} {b n : Nat} {f : List UInt8 → Int × Bool} (h : MapF w b n f) (hn : n < maxLen) {s : ByteArray} (hs : s.size ≤ maxLen) {v : Int} (hv : (Lit.int .i64 v).wf = true) :
    ∃ w', (Instr.mapUpdate 212 (.map (some b)) (.string s) (.int .i64 v)).run Tryz.prog w = .ok () w' ∧
      MapF w' b (n + 1) (fun t => if t = s.data.toList then (v, true) else f t) ∧ w.mapTurned w' b := by
  obtain ⟨D, hD, hf⟩ := h
  have hkey := Go.WideMaps.keyOf_string_mk (P := Tryz.prog) Tryz.underlying9 hs
  obtain ⟨w', hrun, h1, h2⟩ := hD.store keyedS Tryz.underlying212 hn hkey (plainElem_int (H := Unit) Tryz.underlying3 hv)
  refine ⟨w', hrun, ⟨_, h1, fun t => ?_⟩, h2⟩
  by_cases e : t = s.data.toList
  · subst e
    simp only [if_true]
    exact ⟨has_put_same hD.isMap (by simp [WideAt.IsKeyLit]) _, atKey_put_same hD.isMap (by simp [WideAt.IsKeyLit]) _ _⟩
  · simp only [if_neg e]
    have e' : Lit.string t ≠ Lit.string s.data.toList := fun h => e (Lit.string.inj h)
    rw [has_put_other e', atKey_put_other e']
    exact hf t
end Go.Proofs.YtkokdafkjjcgoaaGreatDoor
namespace Go.Proofs.YtkokdafkjjcgoaaGreatDoor
open Go.RowKit Go.Maps

section
variable {B b mb : Nat} {w w' : World} {c0 c2 c3 lv sv av : Value} {n : Nat} {f : List UInt8 → Int × Bool} {nl ns na : Nat} {ll ls la : List Value}

theorem MapF.lt (h : MapF w mb n f) : mb < w.heap.size := by
  obtain ⟨D, ⟨es, clock, hb, _⟩, _⟩ := h
  exact lt_of_heap hb
theorem MapF.kept {row : Option Nat} (h : MapF w mb n f) (hg : w.grownBy w' row) (hne : some mb ≠ row) : MapF w' mb n f := by
  obtain ⟨D, hD, hv⟩ := h
  exact ⟨D, hD.kept hg hne, hv⟩
end
end Go.Proofs.YtkokdafkjjcgoaaGreatDoor
namespace Go

section
variable {P : Program} {ops : Array Oper} {Q : Exit → Act → World → Prop} {md : Region.Mode} {S : World → Prop} {T : Nat → Bool}

/-- an end with value v, the world being as it was -/
def stillUpon (P : Program) (w : World) (v : Value) : Result Next → Prop
  | .ok (.value u) w' => u = v ∧ w' = w
  | .ok (.enter f args) w' => w' = w ∧ Calls P f args w fun e w'' => e = .returned v ∧ w'' = w
  | _ => False
def YieldsS (P : Program) (ops : Array Oper) (S : World → Prop) (o : Oper) (v : Value) (a : Act) : Prop :=
  (Region.wanted o (yielded ops a.tmps) = true ∧ ∀ w, S w → stillUpon P w v ((execOp a.eval o).run P w)) ∨
  (Region.wanted o (yielded ops a.tmps) = false ∧ v = undef)

theorem YieldsS.wpOp {i : Nat} {o : Oper} {v : Value} {a : Act} (hi : ops[i]? = some o) (hy : YieldsS P ops S o v a)
    {K : Act → World → Prop} {w : World} (hS : S w) (h : K (a.put o.dst v) w) : wpOp P ops Q i K a w := by
  unfold Go.wpOp
  simp only [hi]
  rcases hy with ⟨hw, hv⟩ | ⟨hw, rfl⟩
  · simp only [hw, if_true, Oper.wp]
    left
    have h1 := hv w hS
    generalize (execOp a.eval o).run P w = r at *
    cases r with
    | ok n w' =>
      cases n <;> simp only [stillUpon] at h1 <;> simp only [Oper.upon]
      case value u =>
        obtain ⟨rfl, rfl⟩ := h1
        exact h
      case enter f args =>
        obtain ⟨rfl, hc⟩ := h1
        exact hc.mono fun e w'' ⟨he, hw''⟩ => by subst he; subst hw''; exact h
    | halt x w' => simp only [stillUpon] at h1
  · simp only [hw, Bool.false_eq_true, if_false]; exact h

theorem YieldsS.of_same {o : Oper} {v : Value} {a a' : Act} (hy : YieldsS P ops S o v a) (he : execOp a'.eval o = execOp a.eval o)
    (hw : Region.wanted o (yielded ops a'.tmps) = Region.wanted o (yielded ops a.tmps)) : YieldsS P ops S o v a' := by
  unfold YieldsS at *
  rw [he, hw]
  exact hy

theorem wpOp_putS {j : Nat} {oi oj : Oper} {v : Value} (hj : ops[j]? = some oj) (hap : oi.apart ops oj = true)
    (hsi : ∀ cs b, oi.op ≠ .select cs b) (hsj : ∀ cs b, oj.op ≠ .select cs b)
    (hQ : ∀ c a w, Q (.panic c) (a.put oi.dst v) w → Q (.panic c) a w) {K : Act → World → Prop} {a : Act} {w : World}
    (hy : YieldsS P ops S oi v a) (h : wpOp P ops Q j K (a.put oi.dst v) w) :
    wpOp P ops Q j (fun a' w' => YieldsS P ops S oi v a' ∧ K (a'.put oi.dst v) w') a w := by
  obtain ⟨h1, h2, h3⟩ := Oper.apart_spec hap
  have keep : ∀ (a : Act), YieldsS P ops S oi v a → ∀ u, YieldsS P ops S oi v (a.put oj.dst u) := fun a hy u =>
    hy.of_same (execOp_put oi hsi a oj.dst u h3) (wanted_put oi a oj.dst u h3)
  have keepD : ∀ d, YieldsS P ops S oi v { a with defers := d :: a.defers } := fun d => hy.of_same rfl rfl
  unfold wpOp at *
  simp only [hj] at *
  rw [wanted_put oj a oi.dst v h1] at h
  split
  · rename_i hw
    simp only [hw, if_true] at h
    rcases h with h | ⟨hasks, hlets⟩
    case inr => exact .inr ⟨by unfold Oper.asks at *; rw [execOp_put oj hsj a oi.dst v h1] at hasks; exact hasks, hlets⟩
    refine .inl ?_
    unfold Oper.wp at *
    rw [execOp_put oj hsj a oi.dst v h1] at h
    generalize (execOp a.eval oj).run P w = r at *
    cases r with
    | ok n w' =>
      cases n <;> simp only [Oper.upon] at h ⊢
      case value u => exact ⟨keep a hy u, by rw [← Act.put_comm a v u h2]; exact h⟩
      case skip => exact ⟨keep a hy _, by rw [← Act.put_comm a v undef h2]; exact h⟩
      case defer d =>
        refine ⟨keep _ (keepD d) _, ?_⟩
        rw [← Act.put_comm _ v undef h2, ← Act.put_defers]
        exact h
      case enter f args =>
        refine Calls.mono h fun e w'' he => ?_
        cases e with
        | returned u => exact ⟨keep a hy u, by rw [← Act.put_comm a v u h2]; exact he⟩
        | panicked c => exact hQ _ _ _ he
        | outgrown => exact he
      case row row args => exact Rows.mono h fun u w'' he => ⟨keep a hy u, by rw [← Act.put_comm a v u h2]; exact he⟩
    | halt x w' =>
      cases x <;> simp only [Oper.upon] at h ⊢
      case panic u => exact hQ _ _ _ h
  · rename_i hw
    simp only [hw] at h
    exact ⟨keep a hy _, by rw [← Act.put_comm a v undef h2]; exact h⟩

/-- whatever order; S holds behind each operation but those of T, behind which nothing is taken first -/
def wpAnyT (P : Program) (md : Region.Mode) (ops : Array Oper) (Q : Exit → Act → World → Prop) (S : World → Prop) (T : Nat → Bool) : Nat → Array Bool → Act → World → Prop
  | 0, listed, a, w => Region.ready md ops listed = [] ∧ Q .normal a w
  | fuel + 1, listed, a, w =>
    (Region.ready md ops listed = [] → Q .normal a w) ∧
    ∀ i ∈ Region.ready md ops listed, wpOp P ops Q i (fun a' w' => if T i = true then wpAny P md ops Q fuel (listed.setIfInBounds i true) a' w' else S w' ∧ wpAnyT P md ops Q S T fuel (listed.setIfInBounds i true) a' w') a w

theorem wpAny_of_T : ∀ (fuel : Nat) (listed : Array Bool) (a : Act) (w : World), wpAnyT P md ops Q S T fuel listed a w → wpAny P md ops Q fuel listed a w
  | 0, _, _, _, h => h
  | fuel + 1, _, _, _, h => ⟨h.1, fun i hi => wpOp_mono (fun a' w' h' => by
      by_cases ht : T i = true
      · rw [if_pos ht] at h'; exact h'
      · rw [if_neg ht] at h'; exact wpAny_of_T fuel _ a' w' h'.2) (h.2 i hi)⟩

theorem wpAnyT_first {i : Nat} {oi : Oper} {v : Value} (hi : ops[i]? = some oi) (hsel : ∀ (j : Nat) (o : Oper) cs b, ops[j]? = some o → o.op ≠ .select cs b)
    (hQ : ∀ c a w, Q (.panic c) (a.put oi.dst v) w → Q (.panic c) a w) (hT : ∀ j, T j = true → Region.waitsFor md ops j i = true) :
    ∀ (fuel : Nat) (listed : Array Bool) (a : Act) (w : World),
      (∀ j oj, ops[j]? = some oj → j ≠ i → listed.getD j true = false → (∀ e ∈ oj.after, Region.binds md e = true → e.on ≠ i) → oi.apart ops oj = true) →
      i ∈ Region.ready md ops listed → YieldsS P ops S oi v a → S w → T i = false →
      wpAnyT P md ops Q S T fuel (listed.setIfInBounds i true) (a.put oi.dst v) w → wpAnyT P md ops Q S T (fuel + 1) listed a w := by
  intro fuel
  induction fuel with
  | zero =>
    intro listed a w _ hr hy hS hTi H
    refine ⟨fun h => (by rw [h] at hr; cases hr), fun j hj => ?_⟩
    by_cases hji : j = i
    · subst hji; exact hy.wpOp hi hS (by rw [if_neg (by rw [hTi]; decide)]; exact ⟨hS, H⟩)
    · have := ready_mono hj hji
      rw [H.1] at this
      cases this
  | succ fuel ih =>
    intro listed a w hfree hr hy hS hTi H
    refine ⟨fun h => (by rw [h] at hr; cases hr), fun j hj => ?_⟩
    by_cases hji : j = i
    · subst hji; exact hy.wpOp hi hS (by rw [if_neg (by rw [hTi]; decide)]; exact ⟨hS, H⟩)
    · have h1 := H.2 j (ready_mono hj hji)
      obtain ⟨hjun, oj, hoj, hall⟩ := mem_ready.1 hj
      have hnot : ∀ e ∈ oj.after, Region.binds md e = true → e.on ≠ i := fun e he hb heq => by
        have h1 := hall e he hb
        have h0 := (mem_ready.1 hr).1
        rw [heq] at h1
        rcases Nat.lt_or_ge i listed.size with h' | h'
        · simp [h'] at h0 h1; rw [h0] at h1; cases h1
        · simp [Array.getElem?_eq_none h'] at h1
      have hTj : ¬ T j = true := fun ht => by
        obtain ⟨oj', hoj', e, he, hb, hon⟩ := Region.waitsFor_spec (hT j ht)
        have : oj' = oj := Option.some.inj (hoj'.symm.trans hoj)
        subst this
        exact hnot e he hb hon
      simp only [if_neg hTj] at h1 ⊢
      have h2 := wpOp_putS hoj (hfree j oj hoj hji hjun hnot) (fun cs b => hsel i oi cs b hi) (fun cs b => hsel j oj cs b hoj) hQ hy h1
      have hfree' : ∀ k ok, ops[k]? = some ok → k ≠ i → (listed.setIfInBounds j true).getD k true = false →
          (∀ e ∈ ok.after, Region.binds md e = true → e.on ≠ i) → oi.apart ops ok = true := fun k ok hk hki hun hno => by
        refine hfree k ok hk hki ?_ hno
        by_cases hjk : j = k
        · subst hjk; exact hjun
        · rw [getD_set_ne true hjk] at hun; exact hun
      refine wpOp_mono (fun a' w' h3 => ⟨h3.2.1, ih (listed.setIfInBounds j true) a' w' hfree' (ready_mono hr (Ne.symm hji)) h3.1 h3.2.1 hTi ?_⟩) h2
      rw [Array.setIfInBounds_comm _ _ hji]
      exact h3.2.2

theorem wpAnyT_take {i : Nat} {l : List Nat} {oi : Oper} {v : Value} {fuel : Nat} {listed : Array Bool} {a : Act} {w : World} (hi : ops[i]? = some oi)
    (hs : Region.noSelect ops = true) (hf : Region.free md ops listed i = true) (hr : (Region.ready md ops listed).contains i = true)
    (hT : (l.all fun j => Region.waitsFor md ops j i) = true) (hTi : l.contains i = false)
    (hQ : ∀ c a w, Q (.panic c) (a.put oi.dst v) w → Q (.panic c) a w) (hS : S w) (hy : YieldsS P ops S oi v a)
    (h : wpAnyT P md ops Q S l.contains fuel (listed.setIfInBounds i true) (a.put oi.dst v) w) : wpAnyT P md ops Q S l.contains (fuel + 1) listed a w :=
  wpAnyT_first hi (Region.noSelect_spec hs) hQ (fun j hj => List.all_eq_true.1 hT j (by simpa using hj)) fuel listed a w (Region.free_spec hi hf) (by simpa using hr) hy hS hTi h

theorem wpAnyT_ready {rs : List Nat} {fuel : Nat} {listed : Array Bool} {a : Act} {w : World} (hr : Region.ready md ops listed = rs) (hne : rs ≠ [])
    (h : ∀ i ∈ rs, wpOp P ops Q i (fun a' w' => if T i = true then wpAny P md ops Q fuel (listed.setIfInBounds i true) a' w' else S w' ∧ wpAnyT P md ops Q S T fuel (listed.setIfInBounds i true) a' w') a w) : wpAnyT P md ops Q S T (fuel + 1) listed a w :=
  ⟨fun h0 => absurd (hr ▸ h0) hne, hr ▸ h⟩
theorem wpAnyT_one {i : Nat} {fuel : Nat} {listed : Array Bool} {a : Act} {w : World} (hr : Region.ready md ops listed = [i])
    (h : wpOp P ops Q i (fun a' w' => if T i = true then wpAny P md ops Q fuel (listed.setIfInBounds i true) a' w' else S w' ∧ wpAnyT P md ops Q S T fuel (listed.setIfInBounds i true) a' w') a w) : wpAnyT P md ops Q S T (fuel + 1) listed a w :=
  wpAnyT_ready hr (by simp) fun j hj => by
    obtain rfl := List.mem_singleton.1 hj
    exact h
theorem wpOp_keep {i : Nat} {o : Oper} {fuel : Nat} {listed : Array Bool} {a : Act} {w : World} (ho : ops[i]? = some o) (hT : T i = false)
    (h : ∀ K' : Act → World → Prop, (∀ a' w', S w' → wpAnyT P md ops Q S T fuel (listed.setIfInBounds i true) a' w' → K' a' w') → if Region.wanted o (yielded ops a.tmps) = true then Oper.wp P o a w K' Q else K' (a.put o.dst undef) w) :
    wpOp P ops Q i (fun a' w' => if T i = true then wpAny P md ops Q fuel (listed.setIfInBounds i true) a' w' else S w' ∧ wpAnyT P md ops Q S T fuel (listed.setIfInBounds i true) a' w') a w :=
  wpOp_step ho fun K' hK' => h K' fun a' w' hs hw => hK' a' w' (by rw [if_neg (by rw [hT]; decide)]; exact ⟨hs, hw⟩)
end
end Go
namespace Go.Proofs.YtkokdafkjjcgoaaGreatDoor
open Go.RowKit Go.Maps

theorem KnAt.low {B b mb : Nat} {w : World} {lv sv av : Value} {mv : List Value} {K : List Kn} (h : KnAt B w b mb lv sv av mv K) (a : Addr) (ha : a.block < B) (v : Value) : KnAt B (w.setCell a v) b mb lv sv av mv K :=
  ⟨by rw [Below.heap_setCell _ _ _ _ (by have := h.base.1; omega)]; exact h.blk, h.base, h.names.other _ (by have := h.base.2.1; omega) _, ownsRow_setCell_below h.sizes ha _, ownsRow_setCell_below h.aligns ha _, ownsRow_setCell_below h.list ha _, h.mems, h.apart⟩
end Go.Proofs.YtkokdafkjjcgoaaGreatDoor
