/- The reference's IsInt, Promote, Common (written by a program out of the program's own walks: the texts are alike). · How a type is written: the reference, but for functions. · How a type is written: the reference: functions, all types; Declare, Decay, IsScalar. · The reference: what a type is made of; how deep it is; an object; its shape. · The reference's shape (printed by wip/tools/gen-refshape.py). · The reference: a struct's place; are the structs given; up to a multiple. · The reference's sizes: letters, pointers, functions, arrays. · The reference: is an object in a type too great; what is wrong with a type. · The reference: what is wrong with a type, structs being right. -/
import Derived.Test.YtkokdafkjjcgoaaGreatDoorRefM
import Derived.Test.YtkokdafkjjcgoaaGreatDoorParts3
import Derived.Test.YtkokdafkjjcgoaaGreatDoorDeclM
import Derived.Test.YtkokdafkjjcgoaaGreatDoorAddM
namespace Go.Proofs.YtkokdafkjjcgoaaGreatDoor
open Go.RowKit

theorem refIsInt_ok (s : ByteArray) (w : World) : Calls Tryz.prog 252 #[.string s] w fun e w' => e = .returned (.bool (isIntS s)) ∧ w' = w := by
  by_cases h1 : s = ⟨#[99]⟩
  · have hfin := Lib.hid (show isIntS s = true by rw [h1, isIntS, tyS_base (by decide)]; rfl)
    have t1 : (s.toList == [99]) = true := by rw [str_one]; simpa using h1
    clear h1
    go_enter Tryz.func252, Tryz.ntmps252
    go_wp2_with fail
    go_ret
    exact ⟨by rw [hfin.out]; rfl, rfl⟩
  · have t1 : (s.toList == [99]) = false := by rw [str_one]; simpa using h1
    by_cases h2 : s = ⟨#[115]⟩
    · have hfin := Lib.hid (show isIntS s = true by rw [h2, isIntS, tyS_base (by decide)]; rfl)
      have t2 : (s.toList == [115]) = true := by rw [str_one]; simpa using h2
      clear h1 h2
      go_enter Tryz.func252, Tryz.ntmps252
      go_wp2_with fail
      go_ret
      exact ⟨by rw [hfin.out]; rfl, rfl⟩
    · have t2 : (s.toList == [115]) = false := by rw [str_one]; simpa using h2
      by_cases h3 : s = ⟨#[105]⟩
      · have hfin := Lib.hid (show isIntS s = true by rw [h3, isIntS, tyS_base (by decide)]; rfl)
        have t3 : (s.toList == [105]) = true := by rw [str_one]; simpa using h3
        clear h1 h2 h3
        go_enter Tryz.func252, Tryz.ntmps252
        go_wp2_with fail
        go_ret
        exact ⟨by rw [hfin.out]; rfl, rfl⟩
      · have t3 : (s.toList == [105]) = false := by rw [str_one]; simpa using h3
        by_cases h4 : s = ⟨#[117]⟩
        · have hfin := Lib.hid (show isIntS s = true by rw [h4, isIntS, tyS_base (by decide)]; rfl)
          have t4 : (s.toList == [117]) = true := by rw [str_one]; simpa using h4
          clear h1 h2 h3 h4
          go_enter Tryz.func252, Tryz.ntmps252
          go_wp2_with fail
          go_ret
          exact ⟨by rw [hfin.out]; rfl, rfl⟩
        · have t4 : (s.toList == [117]) = false := by rw [str_one]; simpa using h4
          have hfin := Lib.hid (isIntS_not h1 h2 h3 h4)
          clear h1 h2 h3 h4
          go_enter Tryz.func252, Tryz.ntmps252
          go_wp2_with fail
          go_ret
          exact ⟨by rw [hfin.out]; rfl, rfl⟩
theorem refIsInt_is (r : Bool) (s : ByteArray) (w : World) (hr : isIntS s = r) : Calls Tryz.prog 252 #[.string s] w fun e w' => e = .returned (.bool r) ∧ w' = w := by subst hr; exact refIsInt_ok s w

end Go.Proofs.YtkokdafkjjcgoaaGreatDoor
namespace Go.Proofs.YtkokdafkjjcgoaaGreatDoor
open Go.RowKit

theorem kind_is (m : Int) (t : Ty) (w : World) (hm : ((headT t).toNat : Int) = m) : Calls Tryz.prog 161 #[.string (tyB t)] w fun e w' => e = .returned (.int .u8 m) ∧ w' = w := by subst hm; exact refKind_ok t w
end Go.Proofs.YtkokdafkjjcgoaaGreatDoor
namespace Go.Proofs.YtkokdafkjjcgoaaGreatDoor
open Go.RowKit

set_option maxHeartbeats 1000000 in
theorem refIsScalar_ok (s : ByteArray) (w : World) : Calls Tryz.prog 238 #[.string s] w fun e w' => e = .returned (.bool (isScalS s)) ∧ Below w.heap.size w w' := by
  rcases h : tyS s with _ | t
  · have HF := Lib.hid (refForm_is false s w (by rw [h]; rfl))
    have hfin := Lib.hid (show isScalS s = false by unfold isScalS; rw [h]; rfl)
    clear h
    go_enter Tryz.func238, Tryz.ntmps238
    go_wp2_with (go_at_call 160; (with_reducible refine HF.out.mono ?_); rintro e w1 ⟨rfl, hb1⟩)
    go_ret
    exact ⟨by rw [hfin.out]; rfl, hb1⟩
  · have HF := Lib.hid (refForm_is true s w (by rw [h]; rfl))
    obtain ⟨hs, hr, hl⟩ := tyS_some.1 h
    have hi : isIntS s = isIntT t := by unfold isIntS; rw [h]; rfl
    have hsc : isScalS s = (isIntT t || isPtrT t) := by unfold isScalS; rw [h]; rfl
    have HI := Lib.hid (fun w => refIsInt_is (isIntT t) s w hi)
    rcases h1 : isIntT t with _ | _
    · have hp : (((headT t).toNat : Int) == 112) = isPtrT t := by
        cases t with
        | base c => rcases base_six hr with rfl | rfl | rfl | rfl | rfl | rfl <;> rfl
        | _ => rfl
      have hk := fun w => refKind_ok t w
      rw [← hs] at hk
      have HK := Lib.hid hk
      have hfin := Lib.hid (show isScalS s = isPtrT t by rw [hsc, h1]; rfl)
      rw [h1] at HI
      generalize headT t = c at *
      generalize isPtrT t = b at *
      clear h hs hr hl hi hsc h1 hk
      go_enter Tryz.func238, Tryz.ntmps238
      go_wp2_with (first | (go_at_call 160; (with_reducible refine HF.out.mono ?_); rintro e w1 ⟨rfl, hb1⟩; have HB1 := Lib.hid hb1; clear hb1) | (go_at_call 252; (with_reducible refine (HI.out _).mono ?_); rintro e w2 ⟨rfl, hw2⟩; subst w2) | (go_at_call 161; (with_reducible refine (HK.out _).mono ?_); rintro e w2 ⟨rfl, hw2⟩; subst w2))
      go_ret
      exact ⟨by rw [hfin.out]; rfl, HB1.out⟩
    · have hfin := Lib.hid (show isScalS s = true by rw [hsc, h1]; rfl)
      rw [h1] at HI
      clear h hs hr hl hi hsc h1
      go_enter Tryz.func238, Tryz.ntmps238
      go_wp2_with (first | (go_at_call 160; (with_reducible refine HF.out.mono ?_); rintro e w1 ⟨rfl, hb1⟩; have HB1 := Lib.hid hb1; clear hb1) | (go_at_call 252; (with_reducible refine (HI.out _).mono ?_); rintro e w2 ⟨rfl, hw2⟩; subst w2))
      go_ret
      exact ⟨by rw [hfin.out]; rfl, HB1.out⟩
end Go.Proofs.YtkokdafkjjcgoaaGreatDoor
namespace Go.Proofs.YtkokdafkjjcgoaaGreatDoor
open Go.RowKit

/-- what a type is made of -/
def partsT : Ty → List Ty
  | .ptr t => [t]
  | .arr _ t => [t]
  | .fn ps r => ps ++ [r]
  | _ => []
theorem parts_len (t : Ty) (hr : Right t) : (partsT t).length ≤ (code t).length := by
  cases t with
  | fn ps r =>
    have h := rights_len hr.1
    rw [code, partsT]
    simp; omega
  | _ => simp [partsT, code]
theorem parts_mem {t p : Ty} (hp : p ∈ partsT t) (hr : Right t) : Right p ∧ (code p).length < (code t).length := by
  cases t with
  | base c => cases hp
  | str s => cases hp
  | ptr u =>
    obtain rfl := List.mem_singleton.1 hp
    exact ⟨hr, by rw [code]; simp⟩
  | arr n u =>
    obtain rfl := List.mem_singleton.1 hp
    exact ⟨hr.2, by rw [code]; simp; omega⟩
  | fn ps r =>
    rcases List.mem_append.1 hp with h | h
    · refine ⟨?_, ?_⟩
      · obtain ⟨a, b, rfl⟩ := List.append_of_mem h
        exact rights_at hr.1
      · have := codes_mem' h
        rw [code]; simp; omega
    · obtain rfl := List.mem_singleton.1 h
      exact ⟨hr.2, by rw [code]; simp; omega⟩
theorem deep_parts (t : Ty) : deepT t = deepL (partsT t) + 1 := by
  cases t with
  | base c => rfl
  | str s => rfl
  | ptr u => simp [deepT, partsT, deepL]
  | arr n u => simp [deepT, partsT, deepL]
  | fn ps r => rw [deepT, partsT, deepL_snoc]
/-- a slice of types' codes, new from base on -/
def TyRow (w : World) (base : Nat) (v : Value) (l : List Ty) : Prop := w.ownsRow base 34 1 v l.length (l.map fun p => .string (tyB p))
def PartsR (l : List Ty) (w : World) (e : Ending) (w' : World) : Prop := (∃ v, e = .returned v ∧ TyRow w' w.heap.size v l) ∧ Below w.heap.size w w'
theorem partsR_mk {l l' : List Ty} {w w' : World} {v : Value} (hl : l = l') (h : TyRow w' w.heap.size v l') (hb : Below w.heap.size w w') : PartsR l w (.returned v) w' := by subst hl; exact ⟨⟨v, rfl, h⟩, hb⟩
theorem row_one (w : World) (B : Nat) (t : Ty) (hB : B ≤ w.heap.size) : TyRow (w.alloc (.cells #[.string (tyB t)] 34)) B (.slice (some ⟨w.heap.size, 0, none⟩) 1 1) [t] :=
  World.ownsRow_lit _ #[.string (tyB t)] 1 hB (by decide) rfl

set_option maxHeartbeats 2000000 in
theorem refParts_ok (t : Ty) (hr : Right t) (hl : (code t).length ≤ 65536) (w : World) : Calls Tryz.prog 237 #[.string (tyB t)] w (PartsR (partsT t) w) := by
  have HK := Lib.hid (fun w => refKind_ok t w)
  cases t with
  | ptr u =>
    have HS := Lib.hid (fun w => refInner_ptr u w)
    have HK := Lib.hid (fun w => kind_is 112 (.ptr u) w rfl)
    generalize tyB (.ptr u) = s at *
    clear hr hl
    go_enter Tryz.func237, Tryz.ntmps237
    go_wp2_with (first | (go_at_call 161; (with_reducible refine (HK.out _).mono ?_); rintro e w2 ⟨rfl, hw2⟩; subst w2) | (go_at_call 208; (with_reducible refine (HS.out _).mono ?_); rintro e w3 ⟨rfl, hb3⟩; have HB3 := Lib.hid hb3; clear hb3))
    go_ret
    exact partsR_mk rfl (row_one _ _ u HB3.out.size) (HB3.out.alloc HB3.out.size _)
  | arr n u =>
    have HS := Lib.hid (fun w => refInner_arr n u hr hl w)
    have HK := Lib.hid (fun w => kind_is 97 (.arr n u) w rfl)
    generalize tyB (.arr n u) = s at *
    clear hr hl
    go_enter Tryz.func237, Tryz.ntmps237
    go_wp2_with (first | (go_at_call 161; (with_reducible refine (HK.out _).mono ?_); rintro e w2 ⟨rfl, hw2⟩; subst w2) | (go_at_call 208; (with_reducible refine (HS.out _).mono ?_); rintro e w3 ⟨rfl, hb3⟩; have HB3 := Lib.hid hb3; clear hb3))
    go_ret
    exact partsR_mk rfl (row_one _ _ u HB3.out.size) (HB3.out.alloc HB3.out.size _)
  | fn ps r =>
    have HS := Lib.hid (fun w => refSplit_fn ps r w hr hl)
    have HK := Lib.hid (fun w => kind_is 102 (.fn ps r) w rfl)
    have hdl := Lib.hid (show ps.length + 1 ≤ 70000 by
      have := parts_len _ hr
      rw [partsT] at this
      simp at this; omega)
    obtain ⟨i0, hi, hz0, hz1, hz2⟩ := info_parts infoT
    have HI := Lib.hid (And.intro hi (And.intro hz0 (And.intro hz1 hz2)))
    generalize tyB (.fn ps r) = s at *
    clear hr hl hi hz0 hz1 hz2
    go_enter Tryz.func237, Tryz.ntmps237
    go_wp2_with (first | (go_at_call 161; (with_reducible refine (HK.out _).mono ?_); rintro e w2 ⟨rfl, hw2⟩; subst w2) | (go_at_call 162; (with_reducible refine (HS.out _).mono ?_); rintro e w3 ⟨⟨v, rfl, ho⟩, hb3⟩; have HB3 := Lib.hid hb3; have HO3 := Lib.hid ho; clear hb3 ho) | (at_builtin; refine wpList_append_own _ rfl _ _ 168 rfl w.heap.size 34 i0 (.string ⟨#[]⟩) 1 16 Tryz.underlying168 HI.out.1 HI.out.2.1 HI.out.2.2.1 HI.out.2.2.2 rfl (by decide) _ _ _ rfl (HO3.out.alloc _) ⟨w3.heap.size, 0, none⟩ 1 1 [.string (tyB r)] rfl rfl (fun j u h => cell_one _ _ _ j u h) (c2_str _) (c3_le hdl.out) (c4_le hdl.out) (by have := HB3.out.size; simp; omega) ?_))
    intro v' w6 hown hgrow _
    have HO6 := Lib.hid (show TyRow w6 w.heap.size v' (ps ++ [r]) by
      unfold TyRow
      rw [List.length_append, List.map_append]; exact hown)
    have HB6 := Lib.hid ((HB3.out.alloc HB3.out.size _).grown hgrow (by have := HB3.out.size; simp; omega) (fun q e => (HO3.out.lt _ e).1))
    clear hown hgrow
    go_wp2_with fail
    go_ret
    exact partsR_mk rfl HO6.out HB6.out
  | base c =>
    have hne : headT (.base c) ≠ 112 ∧ headT (.base c) ≠ 97 ∧ headT (.base c) ≠ 102 := by rcases base_six hr with rfl | rfl | rfl | rfl | rfl | rfl <;> decide
    have t1 : (((headT (.base c)).toNat : Int) == 112) = false := (byte_ne hne.1 rfl).1
    have t2 : (((headT (.base c)).toNat : Int) == 97) = false := (byte_ne hne.2.1 rfl).1
    have t3 : (((headT (.base c)).toNat : Int) == 102) = false := (byte_ne hne.2.2 rfl).1
    generalize tyB (.base c) = s at *
    generalize headT (.base c) = h at *
    clear hr hl hne
    go_enter Tryz.func237, Tryz.ntmps237
    go_wp2_with (go_at_call 161; (with_reducible refine (HK.out _).mono ?_); rintro e w2 ⟨rfl, hw2⟩; subst w2)
    go_ret
    exact partsR_mk rfl (World.ownsRow_nil _ _ _ _) (Below.refl _ _)
  | str n =>
    have HK := Lib.hid (fun w => kind_is 83 (.str n) w rfl)
    generalize tyB (.str n) = s at *
    clear hr hl
    go_enter Tryz.func237, Tryz.ntmps237
    go_wp2_with (go_at_call 161; (with_reducible refine (HK.out _).mono ?_); rintro e w2 ⟨rfl, hw2⟩; subst w2)
    go_ret
    exact partsR_mk rfl (World.ownsRow_nil _ _ _ _) (Below.refl _ _)

theorem deepL_take {l : List Ty} {k : Nat} (hk : k < l.length) : deepL (l.take (k + 1)) = max (deepL (l.take k)) (deepT l[k]) := by
  rw [List.take_succ_eq_append_getElem hk, deepL_snoc]
/-- how deep, cut: m levels are looked at -/
def DeepC (m : Nat) : Prop := ∀ t w, Right t → (code t).length ≤ 65536 → Calls Tryz.prog 204 #[.string (tyB t), .int .i64 ((m : Int) - 1)] w fun e w' => e = .returned (.int .i64 (min (deepT t) (m + 1) : Nat)) ∧ Below w.heap.size w w'
set_option maxHeartbeats 2000000 in
theorem deep_ok : ∀ m, m ≤ 1000 → DeepC m
  | 0, _ => fun t w _ _ => by
    have h1 : min (deepT t) (0 + 1) = 1 := by have := deepT_pos t; omega
    have HF := Lib.hid h1
    clear h1
    go_enter Tryz.func204, Tryz.ntmps204
    go_wp2_with fail
    go_ret
    exact ⟨by rw [HF.out]; rfl, Below.refl _ _⟩
  | m + 1, hm => fun t w hr hl => by
    have IH := Lib.hid (deep_ok m (by omega))
    have hi : (((m + 1 : Nat) : Int)) - 1 = (m : Int) := by omega
    rw [hi]
    have HP := Lib.hid (refParts_ok t hr hl w)
    have HD := Lib.hid (deep_parts t)
    have HM := Lib.hid (fun p hp => parts_mem (t := t) (p := p) hp hr)
    have hpl := parts_len t hr
    have HL := Lib.hid hl
    generalize hps : partsT t = l at *
    have hll : (l.length : Int) ≤ 65536 := by omega
    generalize tyB t = s at *
    clear hi hpl hps hr hl
    go_enter Tryz.func204, Tryz.ntmps204
    go_wp2_with (go_at_call 237; (with_reducible refine HP.out.mono ?_); rintro e w2 ⟨⟨v, rfl, ho⟩, hb2⟩; have HB2 := Lib.hid hb2; obtain ⟨a, cap, rfl, hc⟩ := own_formT ho; have HC := Lib.hid hc; clear hb2 ho hc)
    go_loopg [6, 7] l.length (fun g v6 v7 wy => ∃ k : Nat, k ≤ l.length ∧ k + g = l.length ∧ v7 = .int .i64 (k : Int) ∧ v6 = .int .i64 (min (deepL (l.take k)) (m + 1) : Nat) ∧ Hid (Below w2.heap.size w2 wy))
    case atStart => exact ⟨0, Nat.zero_le _, by omega, rfl, by rw [List.take_zero, deepL, Nat.zero_min]; rfl, Below.refl _ _⟩
    case round =>
      obtain ⟨k, hk, hkg, rfl, rfl, HB⟩ := hrel
      by_cases hlt : k < l.length
      · obtain ⟨g, rfl, _, hg2, hrow⟩ := HC.out (by omega)
        have e1 : wr.cell? ⟨g, k, none⟩ = some (.string (tyB l[k])) := by
          rw [HB.out.cell (p := ⟨g, k, none⟩) hg2]
          exact hrow k _ (by rw [List.getElem?_map, List.getElem?_eq_getElem hlt]; rfl)
        obtain ⟨hpr, hpl⟩ := HM.out _ (List.getElem_mem hlt)
        have HCl := Lib.hid (fun w => IH.out l[k] w hpr (by have := HL.out; omega))
        have HT := Lib.hid (deepL_take hlt)
        generalize l[k]'hlt = p at *
        have HX := Lib.hid (show max (min (deepL (l.take k)) (m + 1)) (min (deepT p) (m + 1)) = min (deepL (l.take (k + 1))) (m + 1) by rw [HT.out]; omega)
        have hx1 : ((min (deepL (l.take k)) (m + 1) : Nat) : Int) ≤ 2000 := by omega
        generalize min (deepL (l.take k)) (m + 1) = x at *
        have hx2 : ((min (deepT p) (m + 1) : Nat) : Int) ≤ 2000 := by omega
        generalize min (deepT p) (m + 1) = y at *
        generalize tyB p = tp at *
        clear hrow hpr hpl
        go_wp2_with (go_at_call 204; (with_reducible refine (HCl.out _).mono ?_); rintro e w3 ⟨rfl, hb3⟩; have HB3 := Lib.hid (HB.out.trans (hb3.mono HB.out.size)); clear hb3)
        all_goals
          go_roundg (l.length - (k + 1))
          case measure => omega
          case rel => exact ⟨k + 1, by omega, by omega, by rw [Int.natCast_add]; rfl, by rw [← HX.out]; congr 1; try omega, HB3⟩
      · obtain rfl : k = l.length := by omega
        have t3 : (l.length : Int) ≤ (l.length : Int) := Int.le_refl _
        have HF := Lib.hid (show min (deepL (l.take l.length)) (m + 1) + 1 = min (deepT t) (m + 1 + 1) by rw [HD.out, List.take_length]; omega)
        have hx1 : ((min (deepL (l.take l.length)) (m + 1) : Nat) : Int) ≤ 2000 := by omega
        generalize min (deepL (l.take l.length)) (m + 1) = x at *
        go_wp2_with fail
        go_ret
        exact ⟨by rw [← HF.out, Int.natCast_add]; rfl, HB2.out.trans (HB.out.mono HB2.out.size)⟩

theorem head_void {t : Ty} (h : Right t) : (((headT t).toNat : Int) == 118) = isVoidT t := by
  cases t with
  | base c => rcases base_six h with rfl | rfl | rfl | rfl | rfl | rfl <;> rfl
  | _ => rfl
theorem refObject_ok (t : Ty) (hr : Right t) (w : World) : Calls Tryz.prog 172 #[.string (tyB t)] w fun e w' => e = .returned (.bool (objectT t)) ∧ w' = w := by
  have HK := Lib.hid (fun w => refKind_ok t w)
  have h1 := head_void hr
  have h2 := head_fn hr
  have hO := show objectT t = (!isVoidT t && !isFnT t) from rfl
  generalize tyB t = s at *
  generalize headT t = c at *
  generalize objectT t = o at *
  cases hv : isVoidT t with
  | true =>
    rw [hv] at h1 hO
    have t1 : ((c.toNat : Int) != 118) = false := by rw [bne, h1]; rfl
    have HF := Lib.hid hO
    clear h1 h2 hO hv
    go_enter Tryz.func172, Tryz.ntmps172
    go_wp2_with (go_at_call 161; (with_reducible refine (HK.out _).mono ?_); rintro e w2 ⟨rfl, hw2⟩; subst w2)
    go_ret
    exact ⟨by rw [HF.out]; rfl, rfl⟩
  | false =>
    rw [hv] at h1 hO
    have t1 : ((c.toNat : Int) != 118) = true := by rw [bne, h1]; rfl
    have t2 : ((c.toNat : Int) != 102) = !isFnT t := by rw [bne, h2]
    have HF := Lib.hid hO
    clear h1 h2 hO hv
    generalize isFnT t = b at *
    go_enter Tryz.func172, Tryz.ntmps172
    go_wp2_with (go_at_call 161; (with_reducible refine (HK.out _).mono ?_); rintro e w2 ⟨rfl, hw2⟩; subst w2)
    go_ret
    exact ⟨by rw [HF.out]; simp, rfl⟩
end Go.Proofs.YtkokdafkjjcgoaaGreatDoor
namespace Go.Proofs.YtkokdafkjjcgoaaGreatDoor
open Go.RowKit

def ShapC (t : Ty) : Prop := ∀ w, Calls Tryz.prog 205 #[.string (tyB t)] w fun e w' => e = .returned (.bool (shapeT t)) ∧ Below w.heap.size w w'
theorem all_false {l : List Ty} {p : Ty} (h : p ∈ l) (hs : shapeT p = false) : l.all shapeT = false := by
  rw [List.all_eq_false]; exact ⟨p, h, by simp [hs]⟩
theorem all_scal {l : List Ty} {p : Ty} (h : p ∈ l) (hs : isScalarT p = false) : l.all isScalarT = false := by
  rw [List.all_eq_false]; exact ⟨p, h, by simp [hs]⟩
theorem shapes_all2 (l : List Ty) : shapesT l = (l.all isScalarT && l.all shapeT) := by
  induction l with
  | nil => rfl
  | cons t l ih => rw [shapesT, ih, List.all_cons, List.all_cons]; cases isScalarT t <;> cases shapeT t <;> simp
theorem rows_later {w : World} {a : Option Addr} {ps : List Ty} {B : Nat} (hc : 0 < ps.length → ∃ g, a = some ⟨g, 0, none⟩ ∧ B ≤ g ∧ g < w.heap.size ∧ ∀ (j : Nat) u, (ps.map fun p => Value.string (tyB p))[j]? = some u → w.cell? ⟨g, j, none⟩ = some u) :
    ∀ w', Below w.heap.size w w' → 0 < ps.length → ∃ g, a = some ⟨g, 0, none⟩ ∧ g < w'.heap.size ∧ ∀ (j : Nat) (hj : j < ps.length), w'.cell? ⟨g, j, none⟩ = some (.string (tyB ps[j])) := fun w' hb hn => by
  obtain ⟨g, e, _, hg, hr⟩ := hc hn
  refine ⟨g, e, Nat.lt_of_lt_of_le hg hb.size, fun j hj => ?_⟩
  rw [hb.cell (p := ⟨g, j, none⟩) hg]
  exact hr j _ (by rw [List.getElem?_map, List.getElem?_eq_getElem hj]; rfl)
theorem refScal_is (t : Ty) (w : World) (hr : Right t) (hl : (code t).length ≤ 65536) : Calls Tryz.prog 238 #[.string (tyB t)] w fun e w' => e = .returned (.bool (isScalarT t)) ∧ Below w.heap.size w w' := by
  have := refIsScalar_ok (tyB t) w
  rw [show isScalS (tyB t) = isScalarT t by unfold isScalS; rw [tyS_some.2 ⟨rfl, hr, hl⟩]; rfl] at this
  exact this

set_option maxHeartbeats 4000000 in
theorem shap_plain (t : Ty) (hr : Right t) (hl : (code t).length ≤ 65536) (h1 : headT t ≠ 97) (h2 : headT t ≠ 102) (he : shapeT t = (partsT t).all shapeT) (ih : ∀ p ∈ partsT t, ShapC p) : ShapC t := by
  intro w
  have HK := Lib.hid (fun w => refKind_ok t w)
  have t1 : (((headT t).toNat : Int) == 97) = false := (byte_ne h1 rfl).1
  have t2 : (((headT t).toNat : Int) == 102) = false := (byte_ne h2 rfl).1
  have HPt := Lib.hid (fun w => refParts_ok t hr hl w)
  have hpl := parts_len t hr
  have HEq := Lib.hid he
  have HM := Lib.hid ih
  generalize partsT t = l at *
  have hll : (l.length : Int) ≤ 65536 := by omega
  generalize headT t = c at *
  generalize hs : tyB t = s at *
  clear hs h1 h2 he ih hr hl hpl
  go_enter Tryz.func205, Tryz.ntmps205
  go_upto_region 14 with ((go_at_call 161; (with_reducible refine (HK.out _).mono ?_); rintro e w1 ⟨rfl, hw1⟩; subst w1))
  have HPc := Lib.hid (HPt.out w)
  go_wp2_with (go_at_call 237; (with_reducible refine HPc.out.mono ?_); rintro e w2 ⟨⟨v, rfl, ho⟩, hb2⟩; have HB2 := Lib.hid (hb2); obtain ⟨a, cap, rfl, hc⟩ := own_formT ho; have HC := Lib.hid hc; clear hb2 ho hc)
  go_loopg [9] l.length (fun g v9 wy => ∃ k : Nat, k ≤ l.length ∧ k + g = l.length ∧ v9 = .int .i64 (k : Int) ∧ Hid ((l.take k).all shapeT = true) ∧ Hid (Below w2.heap.size w2 wy))
  case atStart => exact ⟨0, Nat.zero_le _, by omega, rfl, rfl, Below.refl _ _⟩
  case round =>
    obtain ⟨k, hk, hkg, rfl, hall, HB⟩ := hrel
    by_cases hlt : k < l.length
    · obtain ⟨g, rfl, _, hg2, hrow⟩ := HC.out (by omega)
      have e1 : wr.cell? ⟨g, k, none⟩ = some (.string (tyB l[k])) := by
        rw [HB.out.cell (p := ⟨g, k, none⟩) hg2]
        exact hrow k _ (by rw [List.getElem?_map, List.getElem?_eq_getElem hlt]; rfl)
      have HCl := Lib.hid (fun w => HM.out _ (List.getElem_mem hlt) w)
      have htk : l.take (k + 1) = l.take k ++ [l[k]] := by rw [List.take_add_one, List.getElem?_eq_getElem hlt]; rfl
      rcases hsh : shapeT l[k] with _ | _
      · have hfin := Lib.hid (show shapeT t = false by rw [HEq.out]; exact all_false (List.getElem_mem hlt) hsh)
        rw [hsh] at HCl
        clear hrow hsh htk
        generalize tyB (l[k]'hlt) = tp at *
        go_wp2_with (go_at_call 205; (with_reducible refine (HCl.out _).mono ?_); rintro e w3 ⟨rfl, hb3⟩; have HB3 := Lib.hid (HB.out.trans (hb3.mono HB.out.size)); clear hb3)
        go_ret
        exact ⟨by rw [hfin.out]; rfl, HB2.out.trans (HB3.out.mono HB2.out.size)⟩
      · have hal2 := Lib.hid (show (l.take (k + 1)).all shapeT = true by rw [htk, List.all_append, hall.out]; simp [hsh])
        rw [hsh] at HCl
        clear hrow hsh htk
        generalize tyB (l[k]'hlt) = tp at *
        go_wp2_with (go_at_call 205; (with_reducible refine (HCl.out _).mono ?_); rintro e w3 ⟨rfl, hb3⟩; have HB3 := Lib.hid (HB.out.trans (hb3.mono HB.out.size)); clear hb3)
        go_roundg (l.length - (k + 1))
        case measure => omega
        case rel => exact ⟨k + 1, by omega, by omega, by rw [Int.natCast_add]; rfl, hal2, HB3⟩
    · obtain rfl : k = l.length := by omega
      have t9 : (l.length : Int) ≤ (l.length : Int) := Int.le_refl _
      have hfin := Lib.hid (show shapeT t = true by rw [HEq.out]; have := hall.out; rwa [List.take_length] at this)
      go_wp2_with fail
      go_ret
      exact ⟨by rw [hfin.out]; rfl, HB2.out.trans (HB.out.mono HB2.out.size)⟩

set_option maxHeartbeats 4000000 in
theorem shap_arr (n : Nat) (u : Ty) (hr : Right (.arr n u)) (hl : (code (.arr n u)).length ≤ 65536) (ih : ShapC u) : ShapC (.arr n u) := by
  intro w
  have HK := Lib.hid (fun w => kind_is 97 (.arr n u) w rfl)
  have HIn := Lib.hid (fun w => refInner_arr n u hr hl w)
  have HOb := Lib.hid (fun w => refObject_ok u hr.2 w)
  have hnb : (n : Int) ≤ 1099511627776 := by have := hr.1; omega
  have HPt := Lib.hid (fun w => refParts_ok (.arr n u) hr hl w)
  have hpl := parts_len (.arr n u) hr
  have HM := Lib.hid (show ∀ p ∈ partsT (.arr n u), ShapC p from fun p hp => by obtain rfl := List.mem_singleton.1 hp; exact ih)
  have hsh : shapeT (.arr n u) = (decide (1 ≤ n ∧ n ≤ 65536) && (objectT u && shapeT u)) := by rw [shapeT]
  have hpt : (partsT (.arr n u)).all shapeT = shapeT u := by simp [partsT]
  have hll : ((partsT (.arr n u)).length : Int) ≤ 65536 := by omega
  clear hr hl hpl
  generalize Ty.arr n u = t at *
  generalize partsT t = l at *
  by_cases hok : objectT u = true ∧ 1 ≤ n ∧ n ≤ 65536
  · obtain ⟨ho, hn1, hn2⟩ := hok
    have HEq := Lib.hid (show shapeT t = l.all shapeT by rw [hsh, hpt, ho, decide_eq_true ⟨hn1, hn2⟩]; rfl)
    have t3 : (1 : Int) ≤ n := by omega
    have t4 : (n : Int) ≤ 65536 := by omega
    rw [ho] at HOb
    generalize tyB t = s at *
    clear hsh hpt ho ih
    go_enter Tryz.func205, Tryz.ntmps205
    go_upto_region 14 with (first | (go_at_call 161; (with_reducible refine (HK.out _).mono ?_); rintro e w1 ⟨rfl, hw1⟩; subst w1) | (go_at_call 208; (with_reducible refine (HIn.out _).mono ?_); rintro e w3 ⟨rfl, hb3⟩; have HB3 := Lib.hid hb3; clear hb3) | (go_at_call 172; (with_reducible refine (HOb.out _).mono ?_); rintro e w1 ⟨rfl, hw1⟩; subst w1))
    have HPc := Lib.hid (HPt.out w3)
    go_wp2_with (go_at_call 237; (with_reducible refine HPc.out.mono ?_); rintro e w2 ⟨⟨v, rfl, ho⟩, hb2⟩; have HB2 := Lib.hid (HB3.out.trans (hb2.mono HB3.out.size)); obtain ⟨a, cap, rfl, hc⟩ := own_formT ho; have HC := Lib.hid hc; clear hb2 ho hc)
    go_loopg [9] l.length (fun g v9 wy => ∃ k : Nat, k ≤ l.length ∧ k + g = l.length ∧ v9 = .int .i64 (k : Int) ∧ Hid ((l.take k).all shapeT = true) ∧ Hid (Below w2.heap.size w2 wy))
    case atStart => exact ⟨0, Nat.zero_le _, by omega, rfl, rfl, Below.refl _ _⟩
    case round =>
      obtain ⟨k, hk, hkg, rfl, hall, HB⟩ := hrel
      by_cases hlt : k < l.length
      · obtain ⟨g, rfl, _, hg2, hrow⟩ := HC.out (by omega)
        have e1 : wr.cell? ⟨g, k, none⟩ = some (.string (tyB l[k])) := by
          rw [HB.out.cell (p := ⟨g, k, none⟩) hg2]
          exact hrow k _ (by rw [List.getElem?_map, List.getElem?_eq_getElem hlt]; rfl)
        have HCl := Lib.hid (fun w => HM.out _ (List.getElem_mem hlt) w)
        have htk : l.take (k + 1) = l.take k ++ [l[k]] := by rw [List.take_add_one, List.getElem?_eq_getElem hlt]; rfl
        rcases hsh : shapeT l[k] with _ | _
        · have hfin := Lib.hid (show shapeT t = false by rw [HEq.out]; exact all_false (List.getElem_mem hlt) hsh)
          rw [hsh] at HCl
          clear hrow hsh htk
          generalize tyB (l[k]'hlt) = tp at *
          go_wp2_with (go_at_call 205; (with_reducible refine (HCl.out _).mono ?_); rintro e w3 ⟨rfl, hb3⟩; have HB3 := Lib.hid (HB.out.trans (hb3.mono HB.out.size)); clear hb3)
          go_ret
          exact ⟨by rw [hfin.out]; rfl, HB2.out.trans (HB3.out.mono HB2.out.size)⟩
        · have hal2 := Lib.hid (show (l.take (k + 1)).all shapeT = true by rw [htk, List.all_append, hall.out]; simp [hsh])
          rw [hsh] at HCl
          clear hrow hsh htk
          generalize tyB (l[k]'hlt) = tp at *
          go_wp2_with (go_at_call 205; (with_reducible refine (HCl.out _).mono ?_); rintro e w3 ⟨rfl, hb3⟩; have HB3 := Lib.hid (HB.out.trans (hb3.mono HB.out.size)); clear hb3)
          go_roundg (l.length - (k + 1))
          case measure => omega
          case rel => exact ⟨k + 1, by omega, by omega, by rw [Int.natCast_add]; rfl, hal2, HB3⟩
      · obtain rfl : k = l.length := by omega
        have t9 : (l.length : Int) ≤ (l.length : Int) := Int.le_refl _
        have hfin := Lib.hid (show shapeT t = true by rw [HEq.out]; have := hall.out; rwa [List.take_length] at this)
        go_wp2_with fail
        go_ret
        exact ⟨by rw [hfin.out]; rfl, HB2.out.trans (HB.out.mono HB2.out.size)⟩
  · have hfin := Lib.hid (show shapeT t = false by
      rw [hsh]
      rcases ho : objectT u with _ | _
      · simp
      · rw [decide_eq_false (fun h => hok ⟨ho, h⟩)]; rfl)
    have hT : objectT u = false ∨ (objectT u = true ∧ (n : Int) < 1) ∨ (objectT u = true ∧ (1 : Int) ≤ n ∧ (65536 : Int) < n) := by
      rcases ho : objectT u with _ | _
      · exact .inl rfl
      · refine .inr ?_
        by_cases h1 : n < 1
        · exact .inl ⟨rfl, by omega⟩
        · refine .inr ⟨rfl, by omega, ?_⟩
          have : ¬ n ≤ 65536 := fun h => hok ⟨ho, by omega, h⟩
          omega
    generalize tyB t = s at *
    clear hsh hpt hok ih
    rcases hT with ho | ⟨ho, t3⟩ | ⟨ho, t3, t4⟩
    all_goals
      rw [ho] at HOb
      clear ho
      go_enter Tryz.func205, Tryz.ntmps205
      go_wp2_with (first | (go_at_call 161; (with_reducible refine (HK.out _).mono ?_); rintro e w1 ⟨rfl, hw1⟩; subst w1) | (go_at_call 208; (with_reducible refine (HIn.out _).mono ?_); rintro e w3 ⟨rfl, hb3⟩; have HB3 := Lib.hid hb3; clear hb3) | (go_at_call 172; (with_reducible refine (HOb.out _).mono ?_); rintro e w1 ⟨rfl, hw1⟩; subst w1))
      go_ret
      exact ⟨by rw [hfin.out]; rfl, HB3.out⟩

theorem tyB_v (t : Ty) (hr : Right t) : ((tyB t).toList == [118]) = isVoidT t := by
  rw [one_is hr 118]
  cases t <;> rfl
set_option maxHeartbeats 8000000 in
set_option maxRecDepth 100000 in
theorem shap_fn (ps : List Ty) (r : Ty) (hr : Right (.fn ps r)) (hl : (code (.fn ps r)).length ≤ 65536) (ih : ∀ p ∈ partsT (.fn ps r), ShapC p) : ShapC (.fn ps r) := by
  intro w
  have HK := Lib.hid (fun w => kind_is 102 (.fn ps r) w rfl)
  have HSg := Lib.hid (fun w => refSplit_fn ps r w hr hl)
  have HPt := Lib.hid (fun w => refParts_ok (.fn ps r) hr hl w)
  have hpl := parts_len (.fn ps r) hr
  have hpb : (ps.length : Int) ≤ 65536 := by
    rw [partsT] at hpl
    simp at hpl; omega
  have HM := Lib.hid ih
  have hsh : shapeT (.fn ps r) = (decide (ps.length ≤ 8) && ((isVoidT r || isScalarT r) && (shapeT r && shapesT ps))) := by rw [shapeT]
  have hrl : Right r ∧ (code r).length < (code (.fn ps r)).length := parts_mem (t := .fn ps r) (by simp [partsT]) hr
  have hv := tyB_v r hrl.1
  have hv' : ((tyB r).toList != [118]) = !isVoidT r := by rw [bne, hv]
  have HSc := Lib.hid (fun w => refScal_is r w hrl.1 (by omega))
  have HPs := Lib.hid (fun (k : Nat) (hk : k < ps.length) w => refScal_is ps[k] w (parts_mem (t := .fn ps r) (p := ps[k]) (by simp [partsT]) hr).1 (by
    have := (parts_mem (t := .fn ps r) (p := ps[k]) (by simp [partsT]) hr).2
    omega))
  have hpt : (partsT (.fn ps r)).all shapeT = (ps.all shapeT && shapeT r) := by simp [partsT]
  have hll : ((partsT (.fn ps r)).length : Int) ≤ 65536 := by omega
  clear ih hr hl hpl
  generalize Ty.fn ps r = t at *
  generalize partsT t = l at *
  generalize tyB t = s at *
  by_cases h8 : ps.length ≤ 8
  · rw [decide_eq_true h8, Bool.true_and] at hsh
    have t3 : (ps.length : Int) ≤ 8 := by omega
    rcases hvs : (isVoidT r || isScalarT r) with _ | _
    · have hfin := Lib.hid (show shapeT t = false by rw [hsh, hvs]; rfl)
      rw [Bool.or_eq_false_iff] at hvs
      have hv2 : ((tyB r).toList != [118]) = true := by rw [hv', hvs.1]; rfl
      rw [hvs.1] at hv
      clear hv'
      rw [hvs.2] at HSc
      clear hsh hpt h8 hrl hvs
      go_enter Tryz.func205, Tryz.ntmps205
      go_wp2_with (first | (go_at_call 161; (with_reducible refine (HK.out _).mono ?_); rintro e w1 ⟨rfl, hw1⟩; subst w1) | (go_at_call 162; (with_reducible refine (HSg.out _).mono ?_); rintro e w3 ⟨⟨v, rfl, ho⟩, hb3⟩; have HB3 := Lib.hid hb3; obtain ⟨a1, cap1, rfl, hc1⟩ := own_formT ho; clear hb3 ho hc1) | (go_at_call 238; (with_reducible refine (HSc.out _).mono ?_); rintro e w4 ⟨rfl, hb4⟩; have HB4 := Lib.hid (HB3.out.trans (hb4.mono HB3.out.size)); clear hb4))
      go_ret
      exact ⟨by rw [hfin.out]; rfl, HB4.out⟩
    · rw [hvs, Bool.true_and] at hsh
      have hT : (isVoidT r = true) ∨ (isVoidT r = false ∧ isScalarT r = true) := by
        rcases h : isVoidT r with _ | _
        · rw [h] at hvs; exact .inr ⟨rfl, by simpa using hvs⟩
        · exact .inl rfl
      have HShs := Lib.hid hsh
      have HAl := Lib.hid hpt
      have HShl := Lib.hid (shapes_all2 ps)
      clear hsh hpt h8 hrl hvs
      rcases hT with h | ⟨h, h'⟩
      case' inl =>
        have hv2 : ((tyB r).toList != [118]) = false := by rw [hv', h]; rfl
        rw [h] at hv
        clear h hv'
        go_enter Tryz.func205, Tryz.ntmps205
        go_upto_region 9 with (first | (go_at_call 161; (with_reducible refine (HK.out _).mono ?_); rintro e w1 ⟨rfl, hw1⟩; subst w1) | (go_at_call 162; (with_reducible refine (HSg.out _).mono ?_); rintro e w3 ⟨⟨v, rfl, ho⟩, hb3⟩; have HB4 := Lib.hid hb3; obtain ⟨a1, cap1, rfl, hc1⟩ := own_formT ho; have HC1 := Lib.hid (show ∀ w', Below w3.heap.size w3 w' → 0 < ps.length → ∃ g, a1 = some ⟨g, 0, none⟩ ∧ g < w'.heap.size ∧ ∀ (j : Nat) (hj : j < ps.length), w'.cell? ⟨g, j, none⟩ = some (.string (tyB ps[j])) from rows_later hc1); clear hb3 ho hc1))
        obtain ⟨w4, hw4⟩ : ∃ w4, w4 = w3 := ⟨_, rfl⟩
        have HB34 := Lib.hid (show Below w3.heap.size w3 w4 by rw [hw4]; exact Below.refl _ _)
        rw [← hw4] at HB4 ⊢
        clear hw4
      case' inr =>
        have hv2 : ((tyB r).toList != [118]) = true := by rw [hv', h]; rfl
        rw [h] at hv
        rw [h'] at HSc
        clear h h' hv'
        go_enter Tryz.func205, Tryz.ntmps205
        go_upto_region 9 with (first | (go_at_call 161; (with_reducible refine (HK.out _).mono ?_); rintro e w1 ⟨rfl, hw1⟩; subst w1) | (go_at_call 162; (with_reducible refine (HSg.out _).mono ?_); rintro e w3 ⟨⟨v, rfl, ho⟩, hb3⟩; have HB3 := Lib.hid hb3; obtain ⟨a1, cap1, rfl, hc1⟩ := own_formT ho; have HC1 := Lib.hid (show ∀ w', Below w3.heap.size w3 w' → 0 < ps.length → ∃ g, a1 = some ⟨g, 0, none⟩ ∧ g < w'.heap.size ∧ ∀ (j : Nat) (hj : j < ps.length), w'.cell? ⟨g, j, none⟩ = some (.string (tyB ps[j])) from rows_later hc1); clear hb3 ho hc1) | (go_at_call 238; (with_reducible refine (HSc.out _).mono ?_); rintro e w4 ⟨rfl, hb4⟩; have HB34 := Lib.hid hb4; have HB4 := Lib.hid (HB3.out.trans (hb4.mono HB3.out.size)); clear hb4))
      all_goals
        go_wp2_with fail
        go_loopg [7] ps.length (fun g v7 wy => ∃ k : Nat, k ≤ ps.length ∧ k + g = ps.length ∧ v7 = .int .i64 (k : Int) ∧ Hid ((ps.take k).all isScalarT = true) ∧ Hid (Below w4.heap.size w4 wy))
        case atStart => exact ⟨0, Nat.zero_le _, by omega, rfl, rfl, Below.refl _ _⟩
        case round =>
          obtain ⟨k, hk, hkg, rfl, hall, HB⟩ := hrel
          by_cases hlt : k < ps.length
          · obtain ⟨g, rfl, hg2, hrow⟩ := HC1.out wr (HB34.out.trans (HB.out.mono HB34.out.size)) (by omega)
            have e1 := hrow k hlt
            have HCl := Lib.hid (fun w => HPs.out k hlt w)
            have htk : ps.take (k + 1) = ps.take k ++ [ps[k]] := by rw [List.take_add_one, List.getElem?_eq_getElem hlt]; rfl
            rcases hsc : isScalarT ps[k] with _ | _
            · have hfin := Lib.hid (show shapeT t = false by rw [HShs.out, HShl.out, all_scal (List.getElem_mem hlt) hsc]; simp)
              rw [hsc] at HCl
              clear hrow hsc htk
              generalize tyB (ps[k]'hlt) = tp at *
              go_wp2_with (go_at_call 238; (with_reducible refine (HCl.out _).mono ?_); rintro e w5 ⟨rfl, hb5⟩; have HB5 := Lib.hid (HB.out.trans (hb5.mono HB.out.size)); clear hb5)
              go_ret
              exact ⟨by rw [hfin.out]; rfl, HB4.out.trans (HB5.out.mono HB4.out.size)⟩
            · have hal2 := Lib.hid (show (ps.take (k + 1)).all isScalarT = true by rw [htk, List.all_append, hall.out]; simp [hsc])
              rw [hsc] at HCl
              clear hrow hsc htk
              generalize tyB (ps[k]'hlt) = tp at *
              go_wp2_with (go_at_call 238; (with_reducible refine (HCl.out _).mono ?_); rintro e w5 ⟨rfl, hb5⟩; have HB5 := Lib.hid (HB.out.trans (hb5.mono HB.out.size)); clear hb5)
              go_roundg (ps.length - (k + 1))
              case measure => omega
              case rel => exact ⟨k + 1, by omega, by omega, by rw [Int.natCast_add]; rfl, hal2, HB5⟩
          · obtain rfl : k = ps.length := by omega
            have t8 : (ps.length : Int) ≤ (ps.length : Int) := Int.le_refl _
            have HEq := Lib.hid (show shapeT t = l.all shapeT by
              have h1 := hall.out
              rw [List.take_length] at h1
              rw [HShs.out, HShl.out, HAl.out, h1, Bool.true_and, Bool.and_comm])
            have HBr := Lib.hid (HB4.out.trans (HB.out.mono HB4.out.size))
            go_upto_region 14 with fail
            have HPc := Lib.hid (HPt.out wr)
            go_wp2_with (go_at_call 237; (with_reducible refine HPc.out.mono ?_); rintro e w2 ⟨⟨v, rfl, ho⟩, hb2⟩; have HB2 := Lib.hid (HBr.out.trans (hb2.mono HBr.out.size)); obtain ⟨a, cap, rfl, hc⟩ := own_formT ho; have HC := Lib.hid hc; clear hb2 ho hc)
            go_loopg [9] l.length (fun g v9 wy => ∃ k : Nat, k ≤ l.length ∧ k + g = l.length ∧ v9 = .int .i64 (k : Int) ∧ Hid ((l.take k).all shapeT = true) ∧ Hid (Below w2.heap.size w2 wy))
            case atStart => exact ⟨0, Nat.zero_le _, by omega, rfl, rfl, Below.refl _ _⟩
            case round =>
              obtain ⟨k, hk, hkg, rfl, hall, HB⟩ := hrel
              by_cases hlt : k < l.length
              · obtain ⟨g, rfl, _, hg2, hrow⟩ := HC.out (by omega)
                have e1 : wr.cell? ⟨g, k, none⟩ = some (.string (tyB l[k])) := by
                  rw [HB.out.cell (p := ⟨g, k, none⟩) hg2]
                  exact hrow k _ (by rw [List.getElem?_map, List.getElem?_eq_getElem hlt]; rfl)
                have HCl := Lib.hid (fun w => HM.out _ (List.getElem_mem hlt) w)
                have htk : l.take (k + 1) = l.take k ++ [l[k]] := by rw [List.take_add_one, List.getElem?_eq_getElem hlt]; rfl
                rcases hsh : shapeT l[k] with _ | _
                · have hfin := Lib.hid (show shapeT t = false by rw [HEq.out]; exact all_false (List.getElem_mem hlt) hsh)
                  rw [hsh] at HCl
                  clear hrow hsh htk
                  generalize tyB (l[k]'hlt) = tp at *
                  go_wp2_with (go_at_call 205; (with_reducible refine (HCl.out _).mono ?_); rintro e w3 ⟨rfl, hb3⟩; have HB3 := Lib.hid (HB.out.trans (hb3.mono HB.out.size)); clear hb3)
                  go_ret
                  exact ⟨by rw [hfin.out]; rfl, HB2.out.trans (HB3.out.mono HB2.out.size)⟩
                · have hal2 := Lib.hid (show (l.take (k + 1)).all shapeT = true by rw [htk, List.all_append, hall.out]; simp [hsh])
                  rw [hsh] at HCl
                  clear hrow hsh htk
                  generalize tyB (l[k]'hlt) = tp at *
                  go_wp2_with (go_at_call 205; (with_reducible refine (HCl.out _).mono ?_); rintro e w3 ⟨rfl, hb3⟩; have HB3 := Lib.hid (HB.out.trans (hb3.mono HB.out.size)); clear hb3)
                  go_roundg (l.length - (k + 1))
                  case measure => omega
                  case rel => exact ⟨k + 1, by omega, by omega, by rw [Int.natCast_add]; rfl, hal2, HB3⟩
              · obtain rfl : k = l.length := by omega
                have t9 : (l.length : Int) ≤ (l.length : Int) := Int.le_refl _
                have hfin := Lib.hid (show shapeT t = true by rw [HEq.out]; have := hall.out; rwa [List.take_length] at this)
                go_wp2_with fail
                go_ret
                exact ⟨by rw [hfin.out]; rfl, HB2.out.trans (HB.out.mono HB2.out.size)⟩
  · have hfin := Lib.hid (show shapeT t = false by rw [hsh, decide_eq_false h8]; rfl)
    have t3 : (8 : Int) < ps.length := by omega
    clear hsh hpt h8 hrl hv hv'
    go_enter Tryz.func205, Tryz.ntmps205
    go_wp2_with (first | (go_at_call 161; (with_reducible refine (HK.out _).mono ?_); rintro e w1 ⟨rfl, hw1⟩; subst w1) | (go_at_call 162; (with_reducible refine (HSg.out _).mono ?_); rintro e w3 ⟨⟨v, rfl, ho⟩, hb3⟩; have HB3 := Lib.hid hb3; obtain ⟨a1, cap1, rfl, hc1⟩ := own_formT ho; clear hb3 ho hc1))
    go_ret
    exact ⟨by rw [hfin.out]; rfl, HB3.out⟩

theorem refShape_ok : ∀ (n : Nat) (t : Ty), (code t).length ≤ n → Right t → (code t).length ≤ 65536 → ShapC t
  | 0, t, hn, hr, _ => by have := code_pos hr; omega
  | n + 1, t, hn, hr, hl => by
    have ih : ∀ p ∈ partsT t, ShapC p := fun p hp => by
      obtain ⟨h1, h2⟩ := parts_mem hp hr
      exact refShape_ok n p (by omega) h1 (by omega)
    cases t with
    | base c => exact shap_plain _ hr hl (by rcases base_six hr with rfl | rfl | rfl | rfl | rfl | rfl <;> decide) (by rcases base_six hr with rfl | rfl | rfl | rfl | rfl | rfl <;> decide) rfl ih
    | str s => exact shap_plain _ hr hl (by simp [headT]) (by simp [headT]) rfl ih
    | ptr u => exact shap_plain _ hr hl (by simp [headT]) (by simp [headT]) (by simp [shapeT, partsT]) ih
    | arr m u => exact shap_arr m u hr hl (ih u (by simp [partsT]))
    | fn ps r => exact shap_fn ps r hr hl ih
end Go.Proofs.YtkokdafkjjcgoaaGreatDoor
namespace Go.Proofs.YtkokdafkjjcgoaaGreatDoor
open Go.RowKit

theorem IsSrs.mono {B B' : Nat} {w : World} {a : Option Addr} {L : List Sr} {mv : List Value} (h : IsSrs B w a L mv) (hB : B ≤ B') : IsSrs B' w a L mv :=
  ⟨h.len, fun hn => (by
    obtain ⟨b, off, e, hlt, hr⟩ := h.at_ hn
    exact ⟨b, off, e, Nat.lt_of_lt_of_le hlt hB, fun i x v hi hv => (by obtain ⟨h1, h2, h3⟩ := hr i x v hi hv; exact ⟨h1, h2, h3.mono hB⟩)⟩), h.names⟩
theorem name_cmp (x : ByteArray) (n : List UInt8) : (x.toList == (strB n).toList) = decide (x.data.toList = n) := by
  rw [str_eqb, Bool.eq_iff_iff, decide_eq_true_iff, decide_eq_true_iff]
  exact ⟨fun h => by rw [h, strB_list], fun h => strB_eq h⟩
set_option maxHeartbeats 2000000 in
theorem refNamed_ok (n : List UInt8) (a : Option Addr) (cap : Nat) (L : List Sr) (mv : List Value) (w : World) (hS : IsSrs w.heap.size w a L mv) (hl : (code (.str n)).length ≤ 65536) (hL : (L.length : Int) ≤ 1000) :
    Calls Tryz.prog 209 #[.string (tyB (.str n)), .slice a L.length cap] w fun e w' => e = .returned (.int .i64 (placeS L n)) ∧ Below w.heap.size w w' := by
  have hx : (tyB (.str n)).extract 1 ((tyB (.str n)).size - 1) = strB n := strB_eq (by
    have : (tyB (.str n)).size - 1 = 1 + n.length := by rw [tyB_size, code]; simp; omega
    rw [this, extract_take, tyB_sfx, code]
    simp)
  have hs2 : 2 ≤ (tyB (.str n)).size := by rw [tyB_size, code]; simp
  have hs3 : (tyB (.str n)).size ≤ 65536 := by rw [tyB_size]; exact hl
  have HS := Lib.hid hS
  generalize tyB (.str n) = s at *
  have HX := Lib.hid hx
  have e1 : IntKind.i64.wrap ((s.size : Int) - 1) = (s.size : Int) - 1 := IntWalk.i64_in _ (by omega)
  have e2 : ((s.size : Int) - 1).toNat = s.size - 1 := by omega
  have e3 : (1 : Int) ≤ (s.size : Int) - 1 := by omega
  have e4 : (s.size : Int) - 1 ≤ s.size := by omega
  clear hS hx hl hs3
  go_enter Tryz.func209, Tryz.ntmps209
  go_wp2_with fail
  go_loopg [5] L.length (fun g v5 wy => ∃ k : Nat, k ≤ L.length ∧ k + g = L.length ∧ v5 = .int .i64 (k : Int) ∧ Hid (∀ j (hj : j < L.length), j < k → L[j].name.data.toList ≠ n) ∧ Hid (Below w.heap.size w wy))
  case atStart => exact ⟨0, by omega, by omega, rfl, fun j _ h => by omega, Below.refl _ _⟩
  case round =>
    obtain ⟨k, hk, hkg, rfl, hno, HB⟩ := hrel
    by_cases hlt : k < L.length
    · obtain ⟨bb, off, ha, hbl, hrow⟩ := HS.out.at_ (fun e => by rw [e] at hlt; simp at hlt)
      subst ha
      have hlm : k < mv.length := by rw [HS.out.len]; exact hlt
      have c1 := (hrow k _ _ (List.getElem?_eq_getElem hlt) (List.getElem?_eq_getElem hlm)).1
      rw [← HB.out.cell hbl] at c1
      have hcmp := name_cmp L[k].name n
      rw [← HX.out] at hcmp
      by_cases h : L[k].name.data.toList = n
      · have hfin := Lib.hid (show placeS L n = (k : Int) by
          have : findS L n = some k := by
            unfold findS
            rw [List.findIdx?_eq_some_iff_getElem]
            exact ⟨hlt, by simpa using h, fun j hj => by simpa using hno.out j (by omega) hj⟩
          unfold placeS; rw [this])
        rw [decide_eq_true h] at hcmp
        clear h hrow hno hlm
        generalize (L[k]'hlt).name = nm at *
        go_wp2_with fail
        go_quiet (fail)
        go_wp2_with fail
        go_ret
        exact ⟨by rw [hfin.out]; rfl, blw_drewN HB.out _⟩
      · have HN := Lib.hid (show ∀ j (hj : j < L.length), j < k + 1 → L[j].name.data.toList ≠ n from fun j hj hjk => by
          rcases Nat.lt_or_ge j k with h' | h'
          · exact hno.out j hj h'
          · obtain rfl : j = k := by omega
            exact h)
        rw [decide_eq_false h] at hcmp
        clear h hrow hno hlm
        generalize (L[k]'hlt).name = nm at *
        go_wp2_with fail
        go_quiet (fail)
        go_wp2_with fail
        go_roundg (L.length - (k + 1))
        case measure => omega
        case rel => exact ⟨k + 1, by omega, by omega, by rw [Int.natCast_add]; rfl, HN.out, blw_drewN HB.out _⟩
    · obtain rfl : k = L.length := by omega
      have hfin := Lib.hid (show placeS L n = -1 by
        have : findS L n = none := by
          unfold findS
          rw [List.findIdx?_eq_none_iff]
          intro x hx
          obtain ⟨j, hj, rfl⟩ := List.getElem_of_mem hx
          simpa using hno.out j hj hj
        unfold placeS; rw [this])
      have t3 : (L.length : Int) ≤ (L.length : Int) := Int.le_refl _
      clear hno
      go_wp2_with fail
      go_ret
      exact ⟨by rw [hfin.out]; rfl, HB.out⟩

theorem placeS_some {L : List Sr} {n : List UInt8} : decide (0 ≤ placeS L n) = (findS L n).isSome := by
  unfold placeS
  cases findS L n <;> simp
/-- are the structs given that a type names, but behind pointers -/
def thereS (L : List Sr) : Ty → Bool
  | .arr _ t => thereS L t
  | .str s => (findS L s).isSome
  | _ => true
theorem thereS_map (K : List Kn) : ∀ t : Ty, thereS (K.map Kn.toSr) t = thereT K t
  | .arr _ t => by rw [thereS, thereT, thereS_map K t]
  | .str s => by rw [thereS, thereT, findS_map]
  | .base _ => by simp [thereS, thereT]
  | .ptr _ => by simp [thereS, thereT]
  | .fn _ _ => by simp [thereS, thereT]
set_option maxHeartbeats 2000000 in
theorem refGiven_ok (a : Option Addr) (cap : Nat) (L : List Sr) (mv : List Value) (hL : (L.length : Int) ≤ 1000) : ∀ (t : Ty) (w : World), IsSrs w.heap.size w a L mv → Right t → (code t).length ≤ 65536 →
    Calls Tryz.prog 206 #[.string (tyB t), .slice a L.length cap] w fun e w' => e = .returned (.bool (thereS L t)) ∧ Below w.heap.size w w'
  | .arr n u, w, hS, hr, hl => by
    have HS := Lib.hid hS
    have HK := Lib.hid (fun w => kind_is 97 (.arr n u) w rfl)
    have HIn := Lib.hid (fun w => refInner_arr n u hr hl w)
    have ih := refGiven_ok a cap L mv hL u
    have HI := Lib.hid (fun w (hS : IsSrs w.heap.size w a L mv) => ih w hS hr.2 (by rw [code] at hl; simp at hl; omega))
    rw [show thereS L (.arr n u) = thereS L u by rw [thereS]]
    generalize tyB (.arr n u) = s at *
    generalize thereS L u = r at *
    clear hr hl ih hS
    go_enter Tryz.func206, Tryz.ntmps206
    go_wp2_with (first | (go_at_call 161; (with_reducible refine (HK.out _).mono ?_); rintro e w1 ⟨rfl, hw1⟩; subst w1) | (go_at_call 208; (with_reducible refine (HIn.out _).mono ?_); rintro e w3 ⟨rfl, hb3⟩; have HB3 := Lib.hid hb3; have HG := Lib.hid (HI.out w3 ((HS.out.below hb3).mono hb3.size)); clear hb3) | (go_at_call 206; (with_reducible refine HG.out.mono ?_); rintro e w4 ⟨rfl, hb4⟩; have HB4 := Lib.hid (HB3.out.trans (hb4.mono HB3.out.size)); clear hb4))
    go_ret
    exact ⟨rfl, HB4.out⟩
  | .str n, w, hS, _, hl => by
    have HN := Lib.hid (fun w (hS : IsSrs w.heap.size w a L mv) => refNamed_ok n a cap L mv w hS hl hL)
    have HS := Lib.hid hS
    have HK := Lib.hid (fun w => kind_is 83 (.str n) w rfl)
    rw [show thereS L (.str n) = decide (0 ≤ placeS L n) by rw [thereS, placeS_some]]
    have HN1 := Lib.hid (HN.out w HS.out)
    generalize tyB (.str n) = s at *
    generalize placeS L n = i at *
    clear hl hS
    go_enter Tryz.func206, Tryz.ntmps206
    go_wp2_with (first | (go_at_call 161; (with_reducible refine (HK.out _).mono ?_); rintro e w1 ⟨rfl, hw1⟩; subst w1) | (go_at_call 209; (with_reducible refine HN1.out.mono ?_); rintro e w3 ⟨rfl, hb3⟩; have HB3 := Lib.hid hb3; clear hb3))
    go_ret
    exact ⟨rfl, HB3.out⟩
  | .base c, w, _, hr, _ => by
    have HK := Lib.hid (fun w => refKind_ok (.base c) w)
    have hne : headT (.base c) ≠ 83 ∧ headT (.base c) ≠ 97 := by rcases base_six hr with rfl | rfl | rfl | rfl | rfl | rfl <;> decide
    have t1 : (((headT (.base c)).toNat : Int) == 83) = false := (byte_ne hne.1 rfl).1
    have t2 : (((headT (.base c)).toNat : Int) == 97) = false := (byte_ne hne.2 rfl).1
    rw [show thereS L (.base c) = true by simp [thereS]]
    generalize tyB (.base c) = s at *
    generalize headT (.base c) = h at *
    clear hr hne
    go_enter Tryz.func206, Tryz.ntmps206
    go_wp2_with (go_at_call 161; (with_reducible refine (HK.out _).mono ?_); rintro e w1 ⟨rfl, hw1⟩; subst w1)
    go_ret
    exact ⟨rfl, Below.refl _ _⟩
  | .ptr u, w, _, _, _ => by
    have HK := Lib.hid (fun w => kind_is 112 (.ptr u) w rfl)
    rw [show thereS L (.ptr u) = true by simp [thereS]]
    generalize tyB (.ptr u) = s at *
    go_enter Tryz.func206, Tryz.ntmps206
    go_wp2_with (go_at_call 161; (with_reducible refine (HK.out _).mono ?_); rintro e w1 ⟨rfl, hw1⟩; subst w1)
    go_ret
    exact ⟨rfl, Below.refl _ _⟩
  | .fn ps r, w, _, _, _ => by
    have HK := Lib.hid (fun w => kind_is 102 (.fn ps r) w rfl)
    rw [show thereS L (.fn ps r) = true by simp [thereS]]
    generalize tyB (.fn ps r) = s at *
    go_enter Tryz.func206, Tryz.ntmps206
    go_wp2_with (go_at_call 161; (with_reducible refine (HK.out _).mono ?_); rintro e w1 ⟨rfl, hw1⟩; subst w1)
    go_ret
    exact ⟨rfl, Below.refl _ _⟩

set_option maxHeartbeats 1000000 in
theorem refUp_ok (n a : Nat) (hn : n ≤ 8388608) (h1 : 1 ≤ a) (h4 : a ≤ 4) (w : World) : Calls Tryz.prog 210 #[.int .i64 (n : Int), .int .i64 (a : Int)] w fun e w' => e = .returned (.int .i64 (fitN n a : Nat)) ∧ w' = w := by
  have hfin := Lib.hid (show fitN n a = (n + a - 1) / a * a from rfl)
  have hb := fit_bd n a h1 h4
  have : a = 1 ∨ a = 2 ∨ a = 3 ∨ a = 4 := by omega
  generalize fitN n a = r at *
  rcases this with rfl | rfl | rfl | rfl
  all_goals
    go_enter Tryz.func210, Tryz.ntmps210
    go_wp2_with fail
    go_ret
    refine ⟨ret_i64 ?_, rfl⟩
    have := hfin.out
    omega
end Go.Proofs.YtkokdafkjjcgoaaGreatDoor
namespace Go.Proofs.YtkokdafkjjcgoaaGreatDoor
open Go.RowKit

/-- what size tells of a type, structs being known -/
def SizeC (K : List Kn) (L : List Sr) (a : Option Addr) (cap : Nat) (mv : List Value) (t : Ty) : Prop := ∀ w, IsSrs w.heap.size w a L mv →
  Calls Tryz.prog 173 #[.string (tyB t), .slice a L.length cap] w fun e w' => e = .returned (.tuple #[.int .i64 (cutN (measT K t).1 : Nat), .int .i64 ((measT K t).2 : Nat)]) ∧ Below w.heap.size w w'
theorem cut_le (n : Nat) : cutN n ≤ 65537 := by unfold cutN; omega
theorem size_end {K : List Kn} {t : Ty} {x y : Int} {w w' : World} (hx : x = (cutN (measT K t).1 : Nat)) (hy : y = ((measT K t).2 : Nat)) (hb : Below w.heap.size w w') :
    Ending.returned (.tuple #[.int .i64 x, .int .i64 y]) = .returned (.tuple #[.int .i64 (cutN (measT K t).1 : Nat), .int .i64 ((measT K t).2 : Nat)]) ∧ Below w.heap.size w w' := by subst hx hy; exact ⟨rfl, hb⟩

set_option maxHeartbeats 2000000 in
theorem size_plain (K : List Kn) (L : List Sr) (a : Option Addr) (cap : Nat) (mv : List Value) (t : Ty) (h97 : headT t ≠ 97) (h83 : headT t ≠ 83) : SizeC K L a cap mv t := by
  intro w _
  have HK := Lib.hid (fun w => refKind_ok t w)
  have t4 : (((headT t).toNat : Int) == 97) = false := (byte_ne h97 rfl).1
  have t5 : (((headT t).toNat : Int) == 83) = false := (byte_ne h83 rfl).1
  have hm : (headT t = 99 ∧ measT K t = (1, 1)) ∨ (headT t ≠ 99 ∧ headT t = 115 ∧ measT K t = (2, 2)) ∨ (headT t ≠ 99 ∧ headT t ≠ 115 ∧ headT t = 106 ∧ measT K t = (64, 4)) ∨ (headT t ≠ 99 ∧ headT t ≠ 115 ∧ headT t ≠ 106 ∧ measT K t = (4, 4)) := by
    cases t with
    | base c =>
      by_cases h1 : c = 99
      · exact .inl ⟨h1, by rw [measT, if_pos h1]⟩
      · by_cases h2 : c = 115
        · exact .inr (.inl ⟨h1, h2, by rw [measT, if_neg h1, if_pos h2]⟩)
        · by_cases h3 : c = 106
          · exact .inr (.inr (.inl ⟨h1, h2, h3, by rw [measT, if_neg h1, if_neg h2, if_pos h3]⟩))
          · exact .inr (.inr (.inr ⟨h1, h2, h3, by rw [measT, if_neg h1, if_neg h2, if_neg h3]⟩))
    | ptr u => exact .inr (.inr (.inr ⟨by simp [headT], by simp [headT], by simp [headT], by rw [measT]⟩))
    | fn ps r => exact .inr (.inr (.inr ⟨by simp [headT], by simp [headT], by simp [headT], by rw [measT]⟩))
    | arr n u => exact absurd rfl h97
    | str s => exact absurd rfl h83
  have fin : ∀ n m : Nat, measT K t = (n, m) → n ≤ 65537 → Hid (∀ (x y : Int) (w' : World), x = n → y = m → Below w.heap.size w w' → Ending.returned (.tuple #[.int .i64 x, .int .i64 y]) = .returned (.tuple #[.int .i64 (cutN (measT K t).1 : Nat), .int .i64 ((measT K t).2 : Nat)]) ∧ Below w.heap.size w w') := fun n m e hn x y w' hx hy hb =>
    size_end (by rw [hx, e]; unfold cutN; simp only; omega) (by rw [hy, e]) hb
  rcases hm with ⟨h1, hm⟩ | ⟨h1, h2, hm⟩ | ⟨h1, h2, h3, hm⟩ | ⟨h1, h2, h3, hm⟩
  case' inl =>
    have F := fin _ _ hm (by decide)
    have t1 : (((headT t).toNat : Int) == 99) = true := (byte_eq h1 rfl).1
  case' inr.inl =>
    have F := fin _ _ hm (by decide)
    have t1 : (((headT t).toNat : Int) == 99) = false := (byte_ne h1 rfl).1
    have t2 : (((headT t).toNat : Int) == 115) = true := (byte_eq h2 rfl).1
    clear h2
  case' inr.inr.inl =>
    have F := fin _ _ hm (by decide)
    have t1 : (((headT t).toNat : Int) == 99) = false := (byte_ne h1 rfl).1
    have t2 : (((headT t).toNat : Int) == 115) = false := (byte_ne h2 rfl).1
    have t3 : (((headT t).toNat : Int) == 106) = true := (byte_eq h3 rfl).1
    clear h2 h3
  case' inr.inr.inr =>
    have F := fin _ _ hm (by decide)
    have t1 : (((headT t).toNat : Int) == 99) = false := (byte_ne h1 rfl).1
    have t2 : (((headT t).toNat : Int) == 115) = false := (byte_ne h2 rfl).1
    have t3 : (((headT t).toNat : Int) == 106) = false := (byte_ne h3 rfl).1
    clear h2 h3
  all_goals
    clear fin hm h1 h97 h83
    generalize tyB t = s at *
    generalize headT t = c at *
    go_enter Tryz.func173, Tryz.ntmps173
    go_wp2_with (go_at_call 161; (with_reducible refine (HK.out _).mono ?_); rintro e w1 ⟨rfl, hw1⟩; subst w1)
    go_ret2
    exact F.out _ _ _ rfl rfl (Below.refl _ _)

set_option maxHeartbeats 2000000 in
theorem size_arr (K : List Kn) (L : List Sr) (a : Option Addr) (cap : Nat) (mv : List Value) (n : Nat) (u : Ty) (hr : Right (.arr n u)) (hl : (code (.arr n u)).length ≤ 65536) (ih : SizeC K L a cap mv u) : SizeC K L a cap mv (.arr n u) := by
  intro w hS
  have HS := Lib.hid hS
  have HK := Lib.hid (fun w => kind_is 97 (.arr n u) w rfl)
  have HIn := Lib.hid (fun w => refInner_arr n u hr hl w)
  have HI := Lib.hid ih
  have hn : n ≤ 1099511627776 := hr.1
  have hm : cutN (measT K (.arr n u)).1 = min (cutN (measT K u).1 * n) 65537 := by
    rw [measT]
    unfold cutN
    rw [Nat.mul_comm (min (measT K u).1 65537) n]
    exact (cut_mul (M := 65537) (by decide)).symm
  have hal : (measT K (.arr n u)).2 = (measT K u).2 := by rw [measT]
  have hc := cut_le (measT K u).1
  have hmul : cutN (measT K u).1 * n ≤ 65537 * 1099511627776 := Nat.mul_le_mul hc hn
  unfold SizeC at HI
  rw [hm, hal]
  generalize tyB (.arr n u) = s at *
  generalize cutN (measT K u).1 = c at *
  generalize (measT K u).2 = al at *
  have hw : IntKind.i64.wrap ((c : Int) * (n : Int)) = (c : Int) * (n : Int) := IntWalk.i64_in _ (by
    have : (c : Int) * (n : Int) = ((c * n : Nat) : Int) := by rw [Int.natCast_mul]
    rw [this]; omega)
  have HM := Lib.hid (show (((min (c * n) 65537 : Nat)) : Int) = min ((c : Int) * (n : Int)) 65537 by
    rw [← Int.natCast_mul]; omega)
  have hx0 : 0 ≤ (c : Int) * (n : Int) := by rw [← Int.natCast_mul]; omega
  clear hr hl hS ih hm hal hmul
  go_enter Tryz.func173, Tryz.ntmps173
  go_wp2_with (first | (go_at_call 161; (with_reducible refine (HK.out _).mono ?_); rintro e w1 ⟨rfl, hw1⟩; subst w1) | (go_at_call 208; (with_reducible refine (HIn.out _).mono ?_); rintro e w3 ⟨rfl, hb3⟩; have HB3 := Lib.hid hb3; have HG := Lib.hid (HI.out w3 ((HS.out.below hb3).mono hb3.size)); clear hb3) | (go_at_call 173; (with_reducible refine HG.out.mono ?_); rintro e w4 ⟨rfl, hb4⟩; have HB4 := Lib.hid (HB3.out.trans (hb4.mono HB3.out.size)); clear hb4))
  go_ret2
  exact ⟨by rw [HM.out]; rfl, HB4.out⟩

theorem mem_text {m : ByteArray × ByteArray} {t : Ty} (h : tyS m.2 = some t) : m.2 = tyB t ∧ Right t ∧ (code t).length ≤ 65536 := tyS_some.1 h
set_option maxHeartbeats 8000000 in
set_option maxRecDepth 100000 in
theorem size_str (K : List Kn) (L : List Sr) (a : Option Addr) (cap : Nat) (mv : List Value) (hG : GoodK K) (hKL : K.map Kn.toSr = L) (s : List UInt8) (j : Nat) (hj : findK K s = some j) (hl : (code (.str s)).length ≤ 65536)
    (ih : ∀ t, Right t → (code t).length ≤ 65536 → thereT (K.take j) t = true → SizeC K L a cap mv t) : SizeC K L a cap mv (.str s) := by
  intro w hS
  have hlt : j < K.length := find_lt hj
  have hLl : L.length = K.length := by rw [← hKL, List.length_map]
  have hlL : j < L.length := by omega
  have hlm : j < mv.length := by rw [hS.len]; omega
  have hLj : L[j] = K[j].toSr := by simp [← hKL]
  have hL65 : (L.length : Int) ≤ 65 := by have := hG.len; omega
  have HN := Lib.hid (show ∀ w, IsSrs w.heap.size w a L mv → Calls Tryz.prog 209 #[.string (tyB (.str s)), .slice a L.length cap] w fun e w' => e = .returned (.int .i64 (j : Int)) ∧ Below w.heap.size w w' from fun w hS => by
    have := refNamed_ok s a cap L mv w hS hl (by omega)
    rw [← hKL, placeS_map, hKL] at this
    rw [show placeK K s = (j : Int) by unfold placeK; rw [hj]] at this
    exact this)
  have HK := Lib.hid (fun w => kind_is 83 (.str s) w rfl)
  obtain ⟨hmo, n0, hn0, hsz⟩ := hG.mems j hlt
  have hal := hG.al _ (List.getElem_mem hlt)
  have hml := hG.mlen _ (List.getElem_mem hlt)
  rw [meas_str hj]
  simp only
  obtain ⟨bb, off, ha, hbl, hrow⟩ := hS.at_ (fun e => by rw [e] at hlL; simp at hlL)
  obtain ⟨e1, e2, hms⟩ := hrow j _ _ (List.getElem?_eq_getElem hlL) (List.getElem?_eq_getElem hlm)
  rw [hLj] at e1 hms
  have hKa : ∀ k ∈ K.take j, 1 ≤ k.align ∧ k.align ≤ 4 := fun k hk => hG.al k (List.mem_of_mem_take hk)
  have IH := Lib.hid (show ∀ m ∈ K[j].mems, ∃ t, tyS m.2 = some t ∧ (1 ≤ (measT (K.take j) t).2 ∧ (measT (K.take j) t).2 ≤ 4) ∧ ∀ w, IsSrs w.heap.size w a L mv → Calls Tryz.prog 173 #[.string m.2, .slice a L.length cap] w fun e w' => e = .returned (.tuple #[.int .i64 (cutN (measT (K.take j) t).1 : Nat), .int .i64 ((measT (K.take j) t).2 : Nat)]) ∧ Below w.heap.size w w' from fun m hm => by
    obtain ⟨t, ht, hc, _⟩ := hmo m hm
    obtain ⟨h1, h2, h3⟩ := mem_text ht
    have hth := (check_there hc).1
    refine ⟨t, ht, meas_align hKa t, fun w hS => ?_⟩
    have := ih t h2 h3 hth w hS
    rw [← h1, ← meas_take hth] at this
    exact this)
  have HMo := Lib.hid hmo
  have HA0 := Lib.hid (fun i => memR_align hKa (K[j].mems.take i) 0 1 ⟨Nat.le_refl _, by decide⟩)
  generalize K[j].name = nm at *
  generalize K[j].mems = ms at *
  generalize K[j].size = sz at *
  generalize K[j].align = al at *
  generalize K.take j = K' at *
  generalize mv[j] = v at *
  obtain ⟨am, cm, rfl, hmr⟩ := hms
  have HMr := Lib.hid hmr
  have HS := Lib.hid hS
  have HN0 := Lib.hid hn0
  have HSz := Lib.hid hsz
  clear hS hrow hLj hlm hKa hmo ih hmr hn0 hsz hG hKL hj hLl
  subst ha
  generalize tyB (.str s) = st at *
  have hms64 : (ms.length : Int) ≤ 64 := by omega
  clear hl hml
  go_enter Tryz.func173, Tryz.ntmps173
  go_wp2_with (first | (go_at_call 161; (with_reducible refine (HK.out _).mono ?_); rintro e w1 ⟨rfl, hw1⟩; subst w1) | (go_at_call 209; (with_reducible refine (HN.out _ HS.out).mono ?_); rintro e w2 ⟨rfl, hb2⟩; have HB2 := Lib.hid hb2; rw [← hb2.cell hbl] at e1 e2; clear hb2))
  have hm2 : (w2.alloc (.cells #[.string nm, .slice am ms.length cm] 114)).heap[w2.heap.size]? = some (.cells #[.string nm, .slice am ms.length cm] 114 (0, 0)) := heap_alloc_new _ _
  have hbc : Below w.heap.size w (w2.alloc (.cells #[.string nm, .slice am ms.length cm] 114)) := HB2.out.alloc HB2.out.size _
  generalize w2.alloc (.cells #[.string nm, .slice am ms.length cm] 114) = wc at *
  have HM2 := Lib.hid hm2
  have HBc := Lib.hid hbc
  have hz2 := lt_of_heap hm2
  clear hm2 hbc e1 e2
  go_loopg [10, 11, 13] ms.length (fun g v10 v11 v13 wy => ∃ (i n al' : Nat), i ≤ ms.length ∧ i + g = ms.length ∧ v13 = .int .i64 (i : Int) ∧ v10 = .int .i64 (cutN n : Nat) ∧ v11 = .int .i64 (al' : Nat) ∧ Hid (memR K' (ms.take i) 0 1 = (n, al')) ∧ Hid (Below wc.heap.size wc wy))
  case atStart => exact ⟨0, 0, 1, Nat.zero_le _, by omega, rfl, rfl, rfl, rfl, Below.refl _ _⟩
  case round =>
    obtain ⟨i, n, al', hi, hig, rfl, rfl, rfl, hR, HB⟩ := hrel
    have hcell := (HB.out.block _ hz2).trans HM2.out
    obtain ⟨⟨d0, d1⟩, _⟩ := two_block hcell
    have hal' := HA0.out i
    rw [hR.out] at hal'
    simp only at hal'
    have hcn := cut_le n
    by_cases hil : i < ms.length
    · obtain ⟨mb, moff, rfl, hmb, hmrow⟩ := HMr.out (fun e => by rw [e] at hil; simp at hil)
      obtain ⟨c1, c2⟩ := hmrow i _ (List.getElem?_eq_getElem hil)
      have HBw := Lib.hid (HBc.out.trans (HB.out.mono HBc.out.size))
      rw [← HBw.out.cell hmb] at c1 c2
      obtain ⟨t, ht, ⟨ha1, ha4⟩, hsize⟩ := IH.out _ (List.getElem_mem hil)
      have htk : ms.take (i + 1) = ms.take i ++ [ms[i]] := by rw [List.take_add_one, List.getElem?_eq_getElem hil]; rfl
      have hR2 : memR K' (ms.take (i + 1)) 0 1 = (fitN n (measT K' t).2 + (measT K' t).1, max al' (measT K' t).2) := by
        rw [htk, memR_snoc (fun m hm => HMo.out m (List.mem_of_mem_take hm)) ht, hR.out]
      have HSc := Lib.hid (hsize _ ((HS.out.below HBw.out).mono HBw.out.size))
      have hcm := cut_le (measT K' t).1
      have HC := Lib.hid (memR_cut (n := n) (m := cutN n) (b := (measT K' t).1) (a := (measT K' t).2) rfl (by omega))
      have HUp := Lib.hid (fun w => refUp_ok (cutN n) (measT K' t).2 (by omega) ha1 ha4 w)
      have hfb := fit_bd (cutN n) (measT K' t).2 ha1 ha4
      generalize (measT K' t).1 = m1 at *
      generalize (measT K' t).2 = a1 at *
      have HR2 := Lib.hid hR2
      generalize ms[i]'hil = mi at *
      obtain ⟨mn, mt⟩ := mi
      simp only at c1 c2 HSc
      have HX := Lib.hid (show ((cutN (fitN n a1 + m1) : Nat) : Int) = min ((fitN (cutN n) a1 : Nat) + (cutN m1 : Nat) : Int) 65537 by
        rw [← HC.out]; unfold cutN; omega)
      have hx1 : ((fitN (cutN n) a1 : Nat) : Int) ≤ 70000 := by omega
      have hx2 : ((cutN m1 : Nat) : Int) ≤ 65537 := by omega
      have HY := Lib.hid (show (((max al' a1 : Nat)) : Int) = max (al' : Int) (a1 : Int) by omega)
      generalize fitN (cutN n) a1 = fc at *
      generalize cutN m1 = cm1 at *
      generalize cutN n = cn at *
      clear hmrow ht hsize htk hR2 hR hcell hfb
      go_wp2_with (first | (go_at_call 173; (with_reducible refine HSc.out.mono ?_); rintro e w3 ⟨rfl, hb3⟩; have HB3 := Lib.hid (HB.out.trans (hb3.mono HB.out.size)); clear hb3) | (go_at_call 210; (with_reducible refine (HUp.out _).mono ?_); rintro e w4 ⟨rfl, hw4⟩; subst w4))
      go_roundg (ms.length - (i + 1))
      case measure => omega
      case rel => exact ⟨i + 1, _, _, by omega, by omega, by rw [Int.natCast_add]; rfl, by rw [HX.out], by rw [HY.out], HR2.out, HB3⟩
    · obtain rfl : i = ms.length := by omega
      have t3 : (ms.length : Int) ≤ (ms.length : Int) := Int.le_refl _
      have hRe := hR.out
      rw [List.take_length, HN0.out] at hRe
      obtain ⟨rfl, rfl⟩ := Prod.mk.inj hRe
      have HUp := Lib.hid (fun w => refUp_ok (cutN n0) al (by omega) hal.1 hal.2 w)
      have HX := Lib.hid (show ((cutN sz : Nat) : Int) = min ((fitN (cutN n0) al : Nat) : Int) 65537 by
        have := cut_fit0 (c := cutN n0) (x := n0) (a := al) (M := 65537) rfl hal.1
        rw [HSz.out]
        unfold cutN at *
        omega)
      have HB4 := Lib.hid (HBc.out.trans (HB.out.mono HBc.out.size))
      clear hR hRe hcell
      go_wp2_with (go_at_call 210; (with_reducible refine (HUp.out _).mono ?_); rintro e w4 ⟨rfl, hw4⟩; subst w4)
      go_ret2
      exact ⟨by rw [HX.out]; rfl, HB4.out⟩

/-- sizes are as the plain law says, structs being right -/
theorem refSize_ok (K : List Kn) (L : List Sr) (a : Option Addr) (cap : Nat) (mv : List Value) (hG : GoodK K) (hKL : K.map Kn.toSr = L) : ∀ (m n : Nat) (t : Ty), (code t).length ≤ n → Right t → (code t).length ≤ 65536 → thereT (K.take m) t = true → SizeC K L a cap mv t
  | _, 0, t, hn, hr, _, _ => by have := code_pos hr; omega
  | m, n + 1, t, hn, hr, hl, hth => by
    cases t with
    | base c => exact size_plain K L a cap mv _ (by rcases base_six hr with rfl | rfl | rfl | rfl | rfl | rfl <;> decide) (by rcases base_six hr with rfl | rfl | rfl | rfl | rfl | rfl <;> decide)
    | ptr u => exact size_plain K L a cap mv _ (by simp [headT]) (by simp [headT])
    | fn ps r => exact size_plain K L a cap mv _ (by simp [headT]) (by simp [headT])
    | arr k u => exact size_arr K L a cap mv k u hr hl (refSize_ok K L a cap mv hG hKL m n u (by rw [code] at hn; simp at hn; omega) hr.2 (by rw [code] at hl; simp at hl; omega) (by rw [thereT] at hth; exact hth))
    | str s =>
      rw [thereT, Option.isSome_iff_exists] at hth
      obtain ⟨j, hj⟩ := hth
      obtain ⟨h1, h2⟩ := findK_take hj
      exact size_str K L a cap mv hG hKL s j h1 hl fun t hr' hl' hth' => refSize_ok K L a cap mv hG hKL j 65536 t hl' hr' hl' hth'
termination_by m n => (m, n)
end Go.Proofs.YtkokdafkjjcgoaaGreatDoor
namespace Go.Proofs.YtkokdafkjjcgoaaGreatDoor
open Go.RowKit

/-- an object that is too great -/
def bigT (K : List Kn) (t : Ty) : Bool := objectT t && (thereT K t && decide (65536 < (measT K t).1))
theorem sized_is {K : List Kn} (hF : FitK K) (t : Ty) : sizedT K t = (!bigT K t && (partsT t).all (sizedT K)) := by
  cases t with
  | base c =>
    have : (measT K (.base c)).1 ≤ 64 := by
      rw [measT]; repeat' split
      all_goals decide
    rw [sizedT, bigT, decide_eq_false (by omega)]; simp [partsT]
  | ptr u => rw [sizedT, bigT, measT]; simp [partsT]
  | str s =>
    have : (measT K (.str s)).1 ≤ 65536 := by
      rw [measT]
      split
      · rename_i k hk
        obtain ⟨i, _, hi⟩ := Option.bind_eq_some_iff.1 hk
        exact (hF.2 k (List.mem_of_getElem? hi)).1
      · decide
    rw [sizedT, bigT, decide_eq_false (by omega)]; simp [partsT]
  | fn ps r => rw [sizedT, bigT, sizeds_all]; simp [partsT, objectT, isFnT, Bool.and_comm]
  | arr n u =>
    rw [sizedT, bigT, thereT, measT]
    simp only [partsT, List.all_cons, List.all_nil, Bool.and_true, objectT, isVoidT, isFnT]
    cases sizedT K u <;> cases thereT K u <;> simp
    by_cases h : n * (measT K u).1 ≤ 65536
    · rw [decide_eq_true h, decide_eq_false (by omega)]; rfl
    · rw [decide_eq_false h, decide_eq_true (by omega)]; rfl
def GreatC (K : List Kn) (L : List Sr) (a : Option Addr) (cap : Nat) (mv : List Value) (t : Ty) : Prop := ∀ w, IsSrs w.heap.size w a L mv →
  Calls Tryz.prog 207 #[.string (tyB t), .slice a L.length cap] w fun e w' => e = .returned (.bool (!sizedT K t)) ∧ Below w.heap.size w w'
theorem all_no {α : Type} {f : α → Bool} {l : List α} {p : α} (h : p ∈ l) (hs : f p = false) : l.all f = false := by
  rw [List.all_eq_false]; exact ⟨p, h, by simp [hs]⟩

set_option maxHeartbeats 8000000 in
set_option maxRecDepth 100000 in
theorem great_step (K : List Kn) (L : List Sr) (a : Option Addr) (cap : Nat) (mv : List Value) (hG : GoodK K) (hF : FitK K) (hKL : K.map Kn.toSr = L) (t : Ty) (hr : Right t) (hl : (code t).length ≤ 65536) (ih : ∀ p ∈ partsT t, GreatC K L a cap mv p) : GreatC K L a cap mv t := by
  intro w hS
  have hLl : (L.length : Int) ≤ 1000 := by rw [← hKL, List.length_map]; have := hG.len; omega
  have HS := Lib.hid hS
  have HO := Lib.hid (fun w => refObject_ok t hr w)
  have HGv := Lib.hid (show ∀ w, IsSrs w.heap.size w a L mv → Calls Tryz.prog 206 #[.string (tyB t), .slice a L.length cap] w fun e w' => e = .returned (.bool (thereT K t)) ∧ Below w.heap.size w w' from fun w hS => by
    have := refGiven_ok a cap L mv hLl t w hS hr hl
    rw [← hKL, thereS_map, hKL] at this
    exact this)
  have HSz := Lib.hid (show thereT K t = true → SizeC K L a cap mv t from fun hth => refSize_ok K L a cap mv hG hKL K.length _ t (Nat.le_refl _) hr hl (by rw [List.take_length]; exact hth))
  have HPt := Lib.hid (fun w => refParts_ok t hr hl w)
  have hpl := parts_len t hr
  have hsd := sized_is hF t
  have HM := Lib.hid ih
  have hll : ((partsT t).length : Int) ≤ 65536 := by omega
  unfold SizeC at HSz
  unfold GreatC at HM
  generalize partsT t = l at *
  generalize tyB t = s at *
  clear hS ih hpl hr hl hG hF hKL
  by_cases hbig : objectT t = true ∧ thereT K t = true ∧ 65536 < (measT K t).1
  · obtain ⟨h1, h2, h3⟩ := hbig
    have hfin := Lib.hid (show sizedT K t = false by rw [hsd, bigT, h1, h2, decide_eq_true h3]; rfl)
    have HSz1 := Lib.hid (HSz.out h2)
    rw [h1] at HO
    rw [h2] at HGv
    have hc : (65536 : Int) < (cutN (measT K t).1 : Nat) := by unfold cutN; omega
    generalize cutN (measT K t).1 = c at *
    generalize (measT K t).2 = al at *
    clear hsd h1 h2 h3 HSz
    go_enter Tryz.func207, Tryz.ntmps207
    go_wp2_with (first | (go_at_call 172; (with_reducible refine (HO.out _).mono ?_); rintro e w1 ⟨rfl, hw1⟩; subst w1; have HG1 := Lib.hid (HGv.out w HS.out)) | (go_at_call 206; (with_reducible refine HG1.out.mono ?_); rintro e w3 ⟨rfl, hb3⟩; have HB3 := Lib.hid hb3; have HZ := Lib.hid (HSz1.out w3 ((HS.out.below hb3).mono hb3.size)); clear hb3) | (go_at_call 173; (with_reducible refine HZ.out.mono ?_); rintro e w4 ⟨rfl, hb4⟩; have HB4 := Lib.hid (HB3.out.trans (hb4.mono HB3.out.size)); clear hb4))
    go_ret
    exact ⟨by rw [hfin.out]; rfl, HB4.out⟩
  · have HEq := Lib.hid (show sizedT K t = l.all (sizedT K) by
      rw [hsd, bigT]
      rcases h1 : objectT t with _ | _
      · rfl
      · rcases h2 : thereT K t with _ | _
        · rfl
        · rw [decide_eq_false (fun h => hbig ⟨h1, h2, h⟩)]; rfl)
    have hT : objectT t = false ∨ (objectT t = true ∧ thereT K t = false) ∨ (objectT t = true ∧ thereT K t = true ∧ (measT K t).1 ≤ 65536) := by
      rcases h1 : objectT t with _ | _
      · exact .inl rfl
      · rcases h2 : thereT K t with _ | _
        · exact .inr (.inl ⟨rfl, rfl⟩)
        · exact .inr (.inr ⟨rfl, rfl, by have : ¬ 65536 < (measT K t).1 := fun h => hbig ⟨h1, h2, h⟩; omega⟩)
    clear hbig hsd
    rcases hT with h1 | ⟨h1, h2⟩ | ⟨h1, h2, h3⟩
    case' inl =>
      rw [h1] at HO
      clear h1
      go_enter Tryz.func207, Tryz.ntmps207
      go_upto_region 5 with (go_at_call 172; (with_reducible refine (HO.out _).mono ?_); rintro e w1 ⟨rfl, hw1⟩; subst w1)
      have HBq := Lib.hid (Below.refl w.heap.size w)
      obtain ⟨wq, hwq⟩ : ∃ wq, wq = w := ⟨_, rfl⟩
      rw [show Below w.heap.size w w ↔ Below w.heap.size w wq by rw [hwq]] at HBq
    case' inr.inl =>
      rw [h1] at HO
      rw [h2] at HGv
      clear h1 h2
      go_enter Tryz.func207, Tryz.ntmps207
      go_upto_region 5 with (first | (go_at_call 172; (with_reducible refine (HO.out _).mono ?_); rintro e w1 ⟨rfl, hw1⟩; subst w1; have HG1 := Lib.hid (HGv.out w HS.out)) | (go_at_call 206; (with_reducible refine HG1.out.mono ?_); rintro e w3 ⟨rfl, hb3⟩; have HBq := Lib.hid hb3; clear hb3))
      obtain ⟨wq, hwq⟩ : ∃ wq, wq = w3 := ⟨_, rfl⟩
      rw [← hwq] at HBq
    case' inr.inr =>
      have HSz1 := Lib.hid (HSz.out h2)
      rw [h1] at HO
      rw [h2] at HGv
      have hc : ((cutN (measT K t).1 : Nat) : Int) ≤ 65536 := by unfold cutN; omega
      generalize cutN (measT K t).1 = c at *
      generalize (measT K t).2 = al at *
      clear h1 h2 h3
      go_enter Tryz.func207, Tryz.ntmps207
      go_upto_region 5 with (first | (go_at_call 172; (with_reducible refine (HO.out _).mono ?_); rintro e w1 ⟨rfl, hw1⟩; subst w1; have HG1 := Lib.hid (HGv.out w HS.out)) | (go_at_call 206; (with_reducible refine HG1.out.mono ?_); rintro e w3 ⟨rfl, hb3⟩; have HB3 := Lib.hid hb3; have HZ := Lib.hid (HSz1.out w3 ((HS.out.below hb3).mono hb3.size)); clear hb3) | (go_at_call 173; (with_reducible refine HZ.out.mono ?_); rintro e w4 ⟨rfl, hb4⟩; have HBq := Lib.hid (HB3.out.trans (hb4.mono HB3.out.size)); clear hb4))
      obtain ⟨wq, hwq⟩ : ∃ wq, wq = w4 := ⟨_, rfl⟩
      rw [← hwq] at HBq
    all_goals
      rw [← hwq]
      clear hwq
      have HPc := Lib.hid (HPt.out wq)
      go_wp2_with (go_at_call 237; (with_reducible refine HPc.out.mono ?_); rintro e w2 ⟨⟨v, rfl, ho⟩, hb2⟩; have HB2 := Lib.hid (HBq.out.trans (hb2.mono HBq.out.size)); obtain ⟨a2, cap2, rfl, hc⟩ := own_formT ho; have HC := Lib.hid hc; clear hb2 ho hc)
      go_loopg [8] l.length (fun g v8 wy => ∃ k : Nat, k ≤ l.length ∧ k + g = l.length ∧ v8 = .int .i64 (k : Int) ∧ Hid ((l.take k).all (sizedT K) = true) ∧ Hid (Below w2.heap.size w2 wy))
      case atStart => exact ⟨0, Nat.zero_le _, by omega, rfl, rfl, Below.refl _ _⟩
      case round =>
        obtain ⟨k, hk, hkg, rfl, hall, HB⟩ := hrel
        by_cases hlt : k < l.length
        · obtain ⟨g, rfl, _, hg2, hrow⟩ := HC.out (by omega)
          have e1 : wr.cell? ⟨g, k, none⟩ = some (.string (tyB l[k])) := by
            rw [HB.out.cell (p := ⟨g, k, none⟩) hg2]
            exact hrow k _ (by rw [List.getElem?_map, List.getElem?_eq_getElem hlt]; rfl)
          have HBr := Lib.hid (HB2.out.trans (HB.out.mono HB2.out.size))
          have HCl := Lib.hid (HM.out _ (List.getElem_mem hlt) wr ((HS.out.below HBr.out).mono HBr.out.size))
          have htk : l.take (k + 1) = l.take k ++ [l[k]] := by rw [List.take_add_one, List.getElem?_eq_getElem hlt]; rfl
          rcases hsh : sizedT K l[k] with _ | _
          · have hfin := Lib.hid (show sizedT K t = false by rw [HEq.out]; exact all_no (List.getElem_mem hlt) hsh)
            rw [hsh] at HCl
            clear hrow hsh htk
            generalize tyB (l[k]'hlt) = tp at *
            go_wp2_with (go_at_call 207; (with_reducible refine HCl.out.mono ?_); rintro e w3 ⟨rfl, hb3⟩; have HB3 := Lib.hid (HBr.out.trans (hb3.mono HBr.out.size)); clear hb3)
            go_ret
            exact ⟨by rw [hfin.out]; rfl, HB3.out⟩
          · have hal2 := Lib.hid (show (l.take (k + 1)).all (sizedT K) = true by rw [htk, List.all_append, hall.out]; simp [hsh])
            rw [hsh] at HCl
            clear hrow hsh htk
            generalize tyB (l[k]'hlt) = tp at *
            go_wp2_with (go_at_call 207; (with_reducible refine HCl.out.mono ?_); rintro e w3 ⟨rfl, hb3⟩; have HB3 := Lib.hid (HB.out.trans (hb3.mono HB.out.size)); clear hb3)
            go_roundg (l.length - (k + 1))
            case measure => omega
            case rel => exact ⟨k + 1, by omega, by omega, by rw [Int.natCast_add]; rfl, hal2, HB3⟩
        · obtain rfl : k = l.length := by omega
          have t9 : (l.length : Int) ≤ (l.length : Int) := Int.le_refl _
          have hfin := Lib.hid (show sizedT K t = true by rw [HEq.out]; have := hall.out; rwa [List.take_length] at this)
          have HBr := Lib.hid (HB2.out.trans (HB.out.mono HB2.out.size))
          go_wp2_with fail
          go_ret
          exact ⟨by rw [hfin.out]; rfl, HBr.out⟩
theorem refGreat_ok (K : List Kn) (L : List Sr) (a : Option Addr) (cap : Nat) (mv : List Value) (hG : GoodK K) (hF : FitK K) (hKL : K.map Kn.toSr = L) : ∀ (n : Nat) (t : Ty), (code t).length ≤ n → Right t → (code t).length ≤ 65536 → GreatC K L a cap mv t
  | 0, t, hn, hr, _ => by have := code_pos hr; omega
  | n + 1, t, hn, hr, hl => great_step K L a cap mv hG hF hKL t hr hl fun p hp => by
    obtain ⟨h1, h2⟩ := parts_mem hp hr
    exact refGreat_ok K L a cap mv hG hF hKL n p (by omega) h1 (by omega)
end Go.Proofs.YtkokdafkjjcgoaaGreatDoor
namespace Go.Proofs.YtkokdafkjjcgoaaGreatDoor
open Go.RowKit

set_option maxHeartbeats 8000000 in
theorem refCheckT_ok (K : List Kn) (L : List Sr) (a : Option Addr) (cap : Nat) (mv : List Value) (hG : GoodK K) (hF : FitK K) (hKL : K.map Kn.toSr = L) (s : ByteArray) (w : World) (hS : IsSrs w.heap.size w a L mv) :
    Calls Tryz.prog 171 #[.string s, .slice a L.length cap] w fun e w' => e = .returned (.int .i64 (checkS K s)) ∧ Below w.heap.size w w' := by
  have HS := Lib.hid hS
  rcases ht : tyS s with _ | t
  · have HFm := Lib.hid (refForm_is false s w (by rw [ht]; rfl))
    have hfin := Lib.hid (checkS_none (K := K) ht)
    clear ht hS
    go_enter Tryz.func171, Tryz.ntmps171
    go_wp2_with (go_at_call 160; (with_reducible refine HFm.out.mono ?_); rintro e w1 ⟨rfl, hb1⟩; have HB1 := Lib.hid hb1; clear hb1)
    go_ret
    exact ⟨by rw [hfin.out]; rfl, HB1.out⟩
  have HFm := Lib.hid (refForm_is true s w (by rw [ht]; rfl))
  have hck := checkS_some (K := K) ht
  obtain ⟨rfl, hr, hl⟩ := tyS_some.1 ht
  have hLl : (L.length : Int) ≤ 1000 := by rw [← hKL, List.length_map]; have := hG.len; omega
  have HD := Lib.hid (fun w => show Calls Tryz.prog 204 #[.string (tyB t), .int .i64 48] w fun e w' => e = .returned (.int .i64 (min (deepT t) 50 : Nat)) ∧ Below w.heap.size w w' from deep_ok 49 (by decide) t w hr hl)
  have HSh := Lib.hid (fun w => refShape_ok _ t (Nat.le_refl _) hr hl w)
  have HGv := Lib.hid (show ∀ w, IsSrs w.heap.size w a L mv → Calls Tryz.prog 206 #[.string (tyB t), .slice a L.length cap] w fun e w' => e = .returned (.bool (thereT K t)) ∧ Below w.heap.size w w' from fun w hS => by
    have := refGiven_ok a cap L mv hLl t w hS hr hl
    rw [← hKL, thereS_map, hKL] at this
    exact this)
  have HGr := Lib.hid (refGreat_ok K L a cap mv hG hF hKL _ t (Nat.le_refl _) hr hl)
  unfold GreatC at HGr
  have hcT : checkT K t = if 48 < deepT t then 3 else if shapeT t = false then 5 else if thereT K t = false then 4 else if sizedT K t = false then 3 else 0 := rfl
  rw [hcT] at hck
  generalize tyB t = s at *
  clear ht hr hl hG hF hKL hS hcT
  by_cases h48 : 48 < deepT t
  · rw [if_pos h48] at hck
    have hfin := Lib.hid hck
    have t1 : (48 : Int) < (min (deepT t) 50 : Nat) := by omega
    generalize min (deepT t) 50 = d at *
    clear hck h48
    go_enter Tryz.func171, Tryz.ntmps171
    go_wp2_with (first | (go_at_call 160; (with_reducible refine HFm.out.mono ?_); rintro e w1 ⟨rfl, hb1⟩; have HB1 := Lib.hid hb1; clear hb1) | (go_at_call 204; (with_reducible refine (HD.out _).mono ?_); rintro e w2 ⟨rfl, hb2⟩; have HB2 := Lib.hid (HB1.out.trans (hb2.mono HB1.out.size)); clear hb2))
    go_ret
    exact ⟨by rw [hfin.out]; rfl, HB2.out⟩
  rw [if_neg h48] at hck
  have t1 : ((min (deepT t) 50 : Nat) : Int) ≤ 48 := by omega
  generalize min (deepT t) 50 = d at *
  rcases h1 : shapeT t with _ | _
  · have hfin := Lib.hid (hck.trans (if_pos h1))
    rw [h1] at HSh
    clear hck h1 h48
    go_enter Tryz.func171, Tryz.ntmps171
    go_wp2_with (first | (go_at_call 160; (with_reducible refine HFm.out.mono ?_); rintro e w1 ⟨rfl, hb1⟩; have HB1 := Lib.hid hb1; clear hb1) | (go_at_call 204; (with_reducible refine (HD.out _).mono ?_); rintro e w2 ⟨rfl, hb2⟩; have HB2 := Lib.hid (HB1.out.trans (hb2.mono HB1.out.size)); clear hb2) | (go_at_call 205; (with_reducible refine (HSh.out _).mono ?_); rintro e w3 ⟨rfl, hb3⟩; have HB3 := Lib.hid (HB2.out.trans (hb3.mono HB2.out.size)); clear hb3))
    go_ret
    exact ⟨by rw [hfin.out]; rfl, HB3.out⟩
  rw [if_neg (by simp [h1])] at hck
  rw [h1] at HSh
  rcases h2 : thereT K t with _ | _
  · have hfin := Lib.hid (hck.trans (if_pos h2))
    rw [h2] at HGv
    clear hck h1 h2 h48
    go_enter Tryz.func171, Tryz.ntmps171
    go_wp2_with (first | (go_at_call 160; (with_reducible refine HFm.out.mono ?_); rintro e w1 ⟨rfl, hb1⟩; have HB1 := Lib.hid hb1; clear hb1) | (go_at_call 204; (with_reducible refine (HD.out _).mono ?_); rintro e w2 ⟨rfl, hb2⟩; have HB2 := Lib.hid (HB1.out.trans (hb2.mono HB1.out.size)); clear hb2) | (go_at_call 205; (with_reducible refine (HSh.out _).mono ?_); rintro e w3 ⟨rfl, hb3⟩; have HB3 := Lib.hid (HB2.out.trans (hb3.mono HB2.out.size)); have HG3 := Lib.hid (HGv.out w3 ((HS.out.below HB3.out).mono HB3.out.size)); clear hb3) | (go_at_call 206; (with_reducible refine HG3.out.mono ?_); rintro e w4 ⟨rfl, hb4⟩; have HB4 := Lib.hid (HB3.out.trans (hb4.mono HB3.out.size)); clear hb4))
    go_ret
    exact ⟨by rw [hfin.out]; rfl, HB4.out⟩
  rw [if_neg (by simp [h2])] at hck
  rw [h2] at HGv
  have hfin := Lib.hid (show checkS K s = if sizedT K t = false then 3 else 0 from hck)
  generalize sizedT K t = b at *
  clear hck h1 h2 h48
  cases b with
  | false =>
    go_enter Tryz.func171, Tryz.ntmps171
    go_wp2_with (first | (go_at_call 160; (with_reducible refine HFm.out.mono ?_); rintro e w1 ⟨rfl, hb1⟩; have HB1 := Lib.hid hb1; clear hb1) | (go_at_call 204; (with_reducible refine (HD.out _).mono ?_); rintro e w2 ⟨rfl, hb2⟩; have HB2 := Lib.hid (HB1.out.trans (hb2.mono HB1.out.size)); clear hb2) | (go_at_call 205; (with_reducible refine (HSh.out _).mono ?_); rintro e w3 ⟨rfl, hb3⟩; have HB3 := Lib.hid (HB2.out.trans (hb3.mono HB2.out.size)); have HG3 := Lib.hid (HGv.out w3 ((HS.out.below HB3.out).mono HB3.out.size)); clear hb3) | (go_at_call 206; (with_reducible refine HG3.out.mono ?_); rintro e w4 ⟨rfl, hb4⟩; have HB4 := Lib.hid (HB3.out.trans (hb4.mono HB3.out.size)); have HG4 := Lib.hid (HGr.out w4 ((HS.out.below HB4.out).mono HB4.out.size)); clear hb4) | (go_at_call 207; (with_reducible refine HG4.out.mono ?_); rintro e w5 ⟨rfl, hb5⟩; have HB5 := Lib.hid (HB4.out.trans (hb5.mono HB4.out.size)); clear hb5))
    go_ret
    exact ⟨by rw [hfin.out]; rfl, HB5.out⟩
  | true =>
    go_enter Tryz.func171, Tryz.ntmps171
    go_wp2_with (first | (go_at_call 160; (with_reducible refine HFm.out.mono ?_); rintro e w1 ⟨rfl, hb1⟩; have HB1 := Lib.hid hb1; clear hb1) | (go_at_call 204; (with_reducible refine (HD.out _).mono ?_); rintro e w2 ⟨rfl, hb2⟩; have HB2 := Lib.hid (HB1.out.trans (hb2.mono HB1.out.size)); clear hb2) | (go_at_call 205; (with_reducible refine (HSh.out _).mono ?_); rintro e w3 ⟨rfl, hb3⟩; have HB3 := Lib.hid (HB2.out.trans (hb3.mono HB2.out.size)); have HG3 := Lib.hid (HGv.out w3 ((HS.out.below HB3.out).mono HB3.out.size)); clear hb3) | (go_at_call 206; (with_reducible refine HG3.out.mono ?_); rintro e w4 ⟨rfl, hb4⟩; have HB4 := Lib.hid (HB3.out.trans (hb4.mono HB3.out.size)); have HG4 := Lib.hid (HGr.out w4 ((HS.out.below HB4.out).mono HB4.out.size)); clear hb4) | (go_at_call 207; (with_reducible refine HG4.out.mono ?_); rintro e w5 ⟨rfl, hb5⟩; have HB5 := Lib.hid (HB4.out.trans (hb5.mono HB4.out.size)); clear hb5))
    go_ret
    exact ⟨by rw [hfin.out]; rfl, HB5.out⟩
end Go.Proofs.YtkokdafkjjcgoaaGreatDoor
