/- The reference: what is wrong with a struct, those ahead of it being right. -/
import Derived.Test.YtkokdafkjjcgoaaGreatDoorBegM
import Derived.Deep.RegionHeld3
import Derived.Deep.AppendLies
namespace Go.Proofs.YtkokdafkjjcgoaaGreatDoor
open Go.RowKit

/-- what one tells -/
def oneV (K : List Kn) (x : Sr) : Int := match addK K x with
  | .inl c => c
  | .inr _ => 0
theorem one_no {K : List Kn} {x : Sr} {c : Int} (h : addK K x = .inl c) : oneV K x = c := by unfold oneV; rw [h]
/-- how one ends -/
def OneEnd (K : List Kn) (x : Sr) (w : World) (e : Ending) (w' : World) : Prop := e = .returned (.int .i64 (oneV K x)) ∧ Below w.heap.size w w'
theorem oneEnd_no {K : List Kn} {x : Sr} {c : Int} {w w' : World} (h : addK K x = .inl c) (hb : Below w.heap.size w w') : OneEnd K x w (.returned (.int .i64 c)) w' := ⟨by rw [one_no h], hb⟩
theorem oneEnd_yes {K : List Kn} {x : Sr} {k : Kn} {w w' : World} (h : addK K x = .inr k) (hb : Below w.heap.size w w') : OneEnd K x w (.returned (.int .i64 0)) w' := ⟨by rw [oneV, h], hb⟩
theorem srs_mems {B : Nat} {w : World} {a : Option Addr} {L : List Sr} {mv : List Value} (h : IsSrs B w a L mv) : ∀ (i : Nat) x v, L[i]? = some x → mv[i]? = some v → IsMems B w v x.mems := fun i x v hx hv => by
  obtain ⟨b, off, _, _, hr⟩ := h.at_ (fun e => by rw [e] at hx; simp at hx)
  exact (hr i x v hx hv).2.2
theorem snoc_mems {B : Nat} {w : World} {L : List Sr} {mv : List Value} {x : Sr} {u : Value} (hl : mv.length = L.length) (h : ∀ (i : Nat) x v, L[i]? = some x → mv[i]? = some v → IsMems B w v x.mems) (hx : IsMems B w u x.mems) :
    ∀ (i : Nat) y v, (L ++ [x])[i]? = some y → (mv ++ [u])[i]? = some v → IsMems B w v y.mems := fun i y v hy hv => by
  rcases Nat.lt_or_ge i L.length with hlt | hge
  · rw [List.getElem?_append_left hlt] at hy
    rw [List.getElem?_append_left (by omega)] at hv
    exact h i y v hy hv
  · obtain rfl : i = L.length := by
      have := (List.getElem?_eq_some_iff.1 hy).1
      simp at this; omega
    rw [List.getElem?_append_right (Nat.le_refl _), Nat.sub_self] at hy
    rw [List.getElem?_append_right (by omega), hl, Nat.sub_self] at hv
    obtain rfl := Option.some.inj hy
    obtain rfl := Option.some.inj hv
    exact hx
theorem find_name {K : List Kn} {L : List Sr} (hKL : K.map Kn.toSr = L) (x : ByteArray) : ((findK K x.data.toList).isSome = true ↔ ∃ (j : Nat) (h : j < L.length), L[j].name = x) := by
  rw [← findS_map, hKL]
  unfold findS
  rw [List.findIdx?_isSome, List.any_eq_true]
  constructor
  · rintro ⟨y, hy, h⟩
    obtain ⟨j, hj, rfl⟩ := List.getElem_of_mem hy
    exact ⟨j, hj, toList_eq (by simpa using h)⟩
  · rintro ⟨j, hj, h⟩
    exact ⟨L[j], List.getElem_mem hj, by simp [h]⟩

theorem seen_iff (l : List (ByteArray × ByteArray)) (i : Nat) (x : ByteArray) : Lib.containsS ((l.take i).map Prod.fst) x = true ↔ ∃ (j : Nat) (h : j < l.length), j < i ∧ l[j].1 = x := by
  rw [Lib.containsS_iff, List.mem_map]
  constructor
  · rintro ⟨m, hm, rfl⟩
    obtain ⟨j, hj, rfl⟩ := List.getElem_of_mem hm
    rw [List.length_take] at hj
    exact ⟨j, by omega, by omega, by rw [List.getElem_take]⟩
  · rintro ⟨j, hj, hji, rfl⟩
    refine ⟨l[j], ?_, rfl⟩
    rw [List.mem_take_iff_getElem]
    exact ⟨j, by omega, rfl⟩

theorem findK_new {K : List Kn} {k : Kn} (h : (findK K k.name.data.toList).isSome = false) : findK (K ++ [k]) k.name.data.toList = some K.length := by
  rw [findK_snoc, if_pos rfl]
  cases hf : findK K k.name.data.toList with
  | none => rfl
  | some i => rw [hf] at h; cases h
/-- the size of the struct that comes -/
theorem size_new (K : List Kn) (L : List Sr) (x : Sr) (n al : Nat) (hG : GoodK K) (hKL : K.map Kn.toSr = L) (h64 : K.length < 64) (hm64 : x.mems.length ≤ 64) (h : memsK K x.mems [] 0 1 = .inr (n, al)) (hn : isNameB x.name = true) (hno : (findK K x.name.data.toList).isSome = false)
    (a2 : Option Addr) (c2 : Nat) (mv2 : List Value) (w : World) (hS : IsSrs w.heap.size w a2 (L ++ [x]) mv2) :
    Calls Tryz.prog 173 #[.string (tyB (.str x.name.data.toList)), .slice a2 (L ++ [x]).length c2] w fun e w' => e = .returned (.tuple #[.int .i64 (cutN (fitN n al) : Nat), .int .i64 (al : Nat)]) ∧ Below w.heap.size w w' := by
  have hG2 := goodK_snoc hG (by omega) hm64 h
  have hf := findK_new (K := K) (k := { x with size := fitN n al, align := al }) hno
  have hl : (code (.str x.name.data.toList)).length ≤ 65536 := by
    unfold isNameB at hn
    have : x.name.size ≤ 31 := by simp at hn; omega
    rw [code]; simp; omega
  have hlen : K.length < (K ++ [({ x with size := fitN n al, align := al } : Kn)]).length := by simp
  have hmeas : measT (K ++ [({ x with size := fitN n al, align := al } : Kn)]) (.str x.name.data.toList) = (fitN n al, al) := by
    rw [meas_str hf]
    simp
  have := refSize_ok _ (L ++ [x]) a2 c2 mv2 hG2 (by rw [List.map_append, hKL]; rfl) (K.length + 1) _ (.str x.name.data.toList) (Nat.le_refl _) (by rw [Right, nameL]; exact hn) hl (by
    rw [List.take_of_length_le (by simp), thereT, hf]; rfl) w hS
  rw [hmeas] at this
  exact this

set_option maxHeartbeats 16000000 in
set_option maxRecDepth 100000 in
theorem refOneS_ok (K : List Kn) (L : List Sr) (a : Option Addr) (cap : Nat) (mv : List Value) (hG : GoodK K) (hF : FitK K) (hKL : K.map Kn.toSr = L) (h64 : K.length < 64) (hA : a ≠ none) (x : Sr) (ms : Value) (w : World) (hS : IsSrs w.heap.size w a L mv) (hm : IsMems w.heap.size w ms x.mems) :
    Calls Tryz.prog 127 #[.agg #[.string x.name, ms], .slice a L.length cap] w (OneEnd K x w) := by
  have HS := Lib.hid hS
  have HMs := Lib.hid hm
  have hLl : (L.length : Int) ≤ 64 := by rw [← hKL, List.length_map]; omega
  have HNm := Lib.hid (fun w => baseName_any x.name w)
  obtain ⟨am, cm, rfl, hmr⟩ := hm
  have HMr := Lib.hid hmr
  have hw0 : (w.alloc (.cells #[.string x.name, .slice am x.mems.length cm] 114)).heap[w.heap.size]? = some (.cells #[.string x.name, .slice am x.mems.length cm] 114 (0, 0)) := heap_alloc_new _ _
  have hb0 : Below w.heap.size w (w.alloc (.cells #[.string x.name, .slice am x.mems.length cm] 114)) := (Below.refl _ _).alloc (Nat.le_refl _) _
  have HW0 := Lib.hid hw0
  have HB0 := Lib.hid hb0
  have HKL := Lib.hid hKL
  have HAn := Lib.hid hA
  have HKl := Lib.hid h64
  clear hmr hS hA
  rcases hn : isNameB x.name with _ | _
  · have hfin := Lib.hid (addK_form (K := K) hn)
    rw [hn] at HNm
    clear hn hb0 hG hF hKL
    go_enter Tryz.func127, Tryz.ntmps127
    go_upto_region 1 with fail
    generalize w.alloc (.cells #[.string x.name, .slice am x.mems.length cm] 114) = w0 at *
    obtain ⟨⟨d0, d1⟩, _⟩ := two_block hw0
    go_wp2_with (go_at_call 87; (with_reducible refine (HNm.out _).mono ?_); rintro e w1 ⟨rfl, hb1⟩; have HB1 := Lib.hid (HB0.out.trans (hb1.mono HB0.out.size)); clear hb1)
    go_ret
    exact oneEnd_no hfin.out HB1.out
  have HN := Lib.hid hn
  rw [hn] at HNm
  have HG := Lib.hid hG
  have HF := Lib.hid hF
  have HFN := Lib.hid (find_name hKL x.name)
  clear hn hb0 hG hF hKL
  go_enter Tryz.func127, Tryz.ntmps127
  go_upto_region 1 with fail
  generalize w.alloc (.cells #[.string x.name, .slice am x.mems.length cm] 114) = w0 at *
  have hz0 := lt_of_heap hw0
  obtain ⟨⟨d0, d1⟩, _⟩ := two_block hw0
  go_wp2_with (go_at_call 87; (with_reducible refine (HNm.out _).mono ?_); rintro e w1 ⟨rfl, hb1⟩; have HB01 := Lib.hid hb1; clear hb1)
  clear d0 d1 hw0
  go_loopg [5] L.length (fun g v5 wy => ∃ k : Nat, k ≤ L.length ∧ k + g = L.length ∧ v5 = .int .i64 (k : Int) ∧ Hid (∀ j (hj : j < L.length), j < k → L[j].name ≠ x.name) ∧ Hid (Below w0.heap.size w0 wy))
  case atStart => exact ⟨0, by omega, by omega, rfl, fun j _ h => by omega, HB01.out⟩
  case round =>
    obtain ⟨k, hk, hkg, rfl, hno, HB⟩ := hrel
    have hcell := (HB.out.block _ hz0).trans HW0.out
    obtain ⟨⟨d0, d1⟩, _⟩ := two_block hcell
    have HBw := Lib.hid (HB0.out.trans (HB.out.mono HB0.out.size))
    by_cases hlt : k < L.length
    · obtain ⟨bb, off, ha, hbl, hrow⟩ := HS.out.at_ (fun e => by rw [e] at hlt; simp at hlt)
      subst ha
      have hlm : k < mv.length := by rw [HS.out.len]; exact hlt
      have c1 := (hrow k _ _ (List.getElem?_eq_getElem hlt) (List.getElem?_eq_getElem hlm)).1
      rw [← HBw.out.cell hbl] at c1
      by_cases h : L[k].name = x.name
      · have hfin := Lib.hid (addK_twice HN.out (HFN.out.2 ⟨k, hlt, h⟩))
        have hcmp : (x.name.toList == x.name.toList) = true := by simp
        rw [h] at c1
        clear h hrow hno hlm hcell
        go_wp2_with fail
        go_quiet (fail)
        go_wp2_with fail
        go_ret
        exact oneEnd_no hfin.out (blw_drewN HBw.out _)
      · have HN2 := Lib.hid (show ∀ j (hj : j < L.length), j < k + 1 → L[j].name ≠ x.name from fun j hj hjk => by
          rcases Nat.lt_or_ge j k with h' | h'
          · exact hno.out j hj h'
          · obtain rfl : j = k := by omega
            exact h)
        have hcmp : (L[k].name.toList == x.name.toList) = false := by rw [str_eqb, decide_eq_false h]
        clear h hrow hno hlm hcell
        generalize (L[k]'hlt).name = nm at *
        go_wp2_with fail
        go_quiet (fail)
        go_wp2_with fail
        go_roundg (L.length - (k + 1))
        case measure => omega
        case rel => exact ⟨k + 1, by omega, by omega, by rw [Int.natCast_add]; rfl, HN2.out, (HB.out.trans (Below.drewN' _ _ |>.mono HB.out.size))⟩
    · obtain rfl : k = L.length := by omega
      have HT := Lib.hid (show (findK K x.name.data.toList).isSome = false by
        rw [Bool.eq_false_iff]
        intro h
        obtain ⟨j, hj, e⟩ := HFN.out.1 h
        exact hno.out j hj hj e)
      have t3 : (L.length : Int) ≤ (L.length : Int) := Int.le_refl _
      clear hno
      by_cases hlong : 64 < x.mems.length
      · have hfin := Lib.hid (addK_long HN.out HT.out hlong)
        have t4 : (64 : Int) < x.mems.length := by omega
        clear hcell
        go_wp2_with fail
        go_ret
        exact oneEnd_no hfin.out HBw.out
      have t4 : (x.mems.length : Int) ≤ 64 := by omega
      by_cases hnone : x.mems = []
      · have hfin := Lib.hid (addK_none HN.out HT.out hnone)
        have t5 : ((x.mems.length : Int) == 0) = true := by rw [hnone]; rfl
        clear hcell hnone
        go_wp2_with fail
        go_ret
        exact oneEnd_no hfin.out HBw.out
      have t5 : ((x.mems.length : Int) == 0) = false := by
        have := List.length_pos_iff.2 hnone
        rw [beq_eq_false_iff_ne]; omega
      have HMM := Lib.hid (fun r hr => addK_mems HN.out HT.out hlong hnone (r := r) hr)
      clear hcell hnone hlong
      go_wp2_with fail
      clear d0 d1 t5
      have HBr := Lib.hid HB.out
      go_loopg [6] x.mems.length (fun g v6 wy => ∃ (i n al : Nat), i ≤ x.mems.length ∧ i + g = x.mems.length ∧ v6 = .int .i64 (i : Int) ∧ Hid (memsK K x.mems [] 0 1 = memsK K (x.mems.drop i) ((x.mems.take i).map Prod.fst) n al) ∧ Hid (Below w0.heap.size w0 wy))
      case atStart => exact ⟨0, 0, 1, Nat.zero_le _, by omega, rfl, rfl, HBr.out⟩
      case round =>
        obtain ⟨i, n, al, hi, hig, rfl, hR, HB⟩ := hrel
        have hcell := (HB.out.block _ hz0).trans HW0.out
        obtain ⟨⟨d0, d1⟩, _⟩ := two_block hcell
        have HBw := Lib.hid (HB0.out.trans (HB.out.mono HB0.out.size))
        by_cases hil : i < x.mems.length
        · obtain ⟨mb, moff, ha, hmb, hmrow⟩ := HMr.out (fun e => by rw [e] at hil; simp at hil)
          subst ha
          have HMw := Lib.hid hmrow
          obtain ⟨c1, c2⟩ := hmrow i _ (List.getElem?_eq_getElem hil)
          rw [← HBw.out.cell hmb] at c1 c2
          have hrest := hR.out
          rw [drop_at _ i hil] at hrest
          have hnext := take_at x.mems i hil
          generalize x.mems[i]'hil = mi at *
          obtain ⟨mn, mt⟩ := mi
          simp only at c1 c2
          have HRest := Lib.hid hrest
          have HNext := Lib.hid hnext
          have HSn := Lib.hid (seen_iff x.mems i mn)
          have HNm2 := Lib.hid (fun w => baseName_any mn w)
          clear hmrow hrest hnext hR
          go_upto_region 16 with fail
          have hm2 : (wr.alloc (.cells #[.string mn, .string mt] 140)).heap[wr.heap.size]? = some (.cells #[.string mn, .string mt] 140 (0, 0)) := heap_alloc_new _ _
          have hb2 : Below wr.heap.size wr (wr.alloc (.cells #[.string mn, .string mt] 140)) := (Below.refl _ _).alloc (Nat.le_refl _) _
          generalize wr.alloc (.cells #[.string mn, .string mt] 140) = w2 at *
          have HM2 := Lib.hid hm2
          have hbr2 := HB.out.trans (hb2.mono HB.out.size)
          have HB2 := Lib.hid hbr2
          have hcell2 := (hbr2.block _ hz0).trans HW0.out
          have HC2 := Lib.hid hcell2
          have HBW2 := Lib.hid (HB0.out.trans (hbr2.mono HB0.out.size))
          have hz2 := lt_of_heap hm2
          clear d0 d1
          obtain ⟨⟨d0, d1⟩, _⟩ := two_block hcell2
          obtain ⟨⟨m0, m1⟩, _⟩ := two_block hm2
          clear hm2 hb2 hbr2 c1 c2 hcell hcell2
          rcases hnm : isNameB mn with _ | _
          · rw [hnm] at HNm2
            have hfin := Lib.hid ((HMM.out _ HRest.out).1 _ (mem_form hnm))
            clear hnm
            go_wp2_with (go_at_call 87; (with_reducible refine (HNm2.out _).mono ?_); rintro e w3 ⟨rfl, hb3⟩; have HB3 := Lib.hid (HBW2.out.trans (hb3.mono HBW2.out.size)); clear hb3)
            go_ret
            exact oneEnd_no hfin.out HB3.out
          rw [hnm] at HNm2
          have HNt := Lib.hid hnm
          clear hnm
          go_wp2_with (go_at_call 87; (with_reducible refine (HNm2.out _).mono ?_); rintro e w3 ⟨rfl, hb3⟩; have HB3 := Lib.hid (HB2.out.trans (hb3.mono HB2.out.size)); have HM3 := Lib.hid ((hb3.block _ hz2).trans HM2.out); clear hb3)
          have hz3 := lt_of_heap HM3.out
          have HBW3 := Lib.hid (HB0.out.trans (HB3.out.mono HB0.out.size))
          have hil2 : (i : Int) ≤ (x.mems.length : Int) := by omega
          clear d0 d1 m0 m1
          go_loopg [8] i (fun g v8 wy => ∃ k : Nat, k ≤ i ∧ k + g = i ∧ v8 = .int .i64 (k : Int) ∧ Hid (∀ j (hj : j < x.mems.length), j < k → x.mems[j].1 ≠ mn) ∧ Hid (Below w3.heap.size w3 wy))
          case atStart => exact ⟨0, by omega, by omega, rfl, fun j _ h => by omega, Below.refl _ _⟩
          case round =>
            obtain ⟨k, hk, hkg, rfl, hno, HB4⟩ := hrel
            have HBW4 := Lib.hid (HBW3.out.trans (HB4.out.mono HBW3.out.size))
            have hcell4 := (HB4.out.block _ (lt_of_heap ((HB3.out.block _ hz0).trans HW0.out))).trans ((HB3.out.block _ hz0).trans HW0.out)
            obtain ⟨⟨d0, d1⟩, _⟩ := two_block hcell4
            have hm4 := (HB4.out.block _ hz3).trans HM3.out
            have HM4 := Lib.hid hm4
            obtain ⟨⟨m0, m1⟩, _⟩ := two_block hm4
            clear hcell4 hm4
            by_cases hki : k < i
            · have hkl : k < x.mems.length := by omega
              have c1 := (HMw.out k _ (List.getElem?_eq_getElem hkl)).1
              rw [← HBW4.out.cell hmb] at c1
              have hki2 : (k : Int) < (x.mems.length : Int) := by omega
              by_cases h : (x.mems[k]'hkl).1 = mn
              · have hfin := Lib.hid ((HMM.out _ HRest.out).1 _ (mem_twice HNt.out (HSn.out.2 ⟨k, hkl, hki, h⟩)))
                have hcmp : (mn.toList == mn.toList) = true := by simp
                rw [h] at c1
                clear h hno
                go_wp2_with fail
                go_quiet (fail)
                go_wp2_with fail
                go_ret
                exact oneEnd_no hfin.out (blw_drewN HBW4.out _)
              · have HN2 := Lib.hid (show ∀ j (hj : j < x.mems.length), j < k + 1 → x.mems[j].1 ≠ mn from fun j hj hjk => by
                  rcases Nat.lt_or_ge j k with h' | h'
                  · exact hno.out j hj h'
                  · obtain rfl : j = k := by omega
                    exact h)
                have hcmp : ((x.mems[k]'hkl).1.toList == mn.toList) = false := by rw [str_eqb, decide_eq_false h]
                clear h hno
                generalize (x.mems[k]'hkl).1 = nm at *
                go_wp2_with fail
                go_quiet (fail)
                go_wp2_with fail
                go_roundg (i - (k + 1))
                case measure => omega
                case rel => exact ⟨k + 1, by omega, by omega, by rw [Int.natCast_add]; rfl, HN2.out, (HB4.out.trans (Below.drewN' _ _ |>.mono HB4.out.size))⟩
            · obtain rfl : k = i := by omega
              have hse : Lib.containsS ((x.mems.take k).map Prod.fst) mn = false := by
                rw [Bool.eq_false_iff]
                intro h
                obtain ⟨j, hj, hjk, e⟩ := HSn.out.1 h
                exact hno.out j hj hjk e
              have HSe := Lib.hid hse
              have HCk := Lib.hid (refCheckT_ok K L a cap mv HG.out HF.out HKL.out mt wr ((HS.out.below HBW4.out).mono HBW4.out.size))
              clear hno hse
              by_cases hc : checkS K mt = 0
              · obtain ⟨t, ht⟩ : ∃ t, tyS mt = some t := by
                  cases ht : tyS mt with
                  | none => rw [checkS_none ht] at hc; simp at hc
                  | some t => exact ⟨t, rfl⟩
                obtain ⟨hmt, hrt, hlt'⟩ := tyS_some.1 ht
                have HO := Lib.hid fun w5 => refObject_ok t hrt w5
                rw [← hmt] at HO
                rcases hob : objectT t with _ | _
                · rw [hob] at HO
                  have hfin := Lib.hid ((HMM.out _ HRest.out).1 _ (mem_object HNt.out HSe.out ht hc hob))
                  rw [hc] at HCk
                  clear hmt hrt hlt' ht hc hob
                  go_wp2_with (go_at_call 171; (with_reducible refine HCk.out.mono ?_); rintro e w5 ⟨rfl, hb5⟩; have hm5 := (hb5.block _ (lt_of_heap HM4.out)).trans HM4.out; obtain ⟨⟨p0, p1⟩, _⟩ := two_block hm5; have HB5 := Lib.hid (HBW4.out.trans (hb5.mono HBW4.out.size)); clear hb5 hm5)
                  go_wp2_with (go_at_call 172; (with_reducible refine (HO.out _).mono ?_); rintro e w6 ⟨rfl, hw6⟩; subst w6)
                  go_ret
                  exact oneEnd_no hfin.out HB5.out
                · rw [hob] at HO
                  have HMN := Lib.hid (mem_next (K := K) (m := (mn, mt)) (l := x.mems.drop (k + 1)) (n := n) (a := al) HNt.out HSe.out ht hc hob)
                  rw [hc] at HCk
                  clear hmt hrt hlt' ht hc hob
                  go_wp2_with (go_at_call 171; (with_reducible refine HCk.out.mono ?_); rintro e w5 ⟨rfl, hb5⟩; have hm5 := (hb5.block _ (lt_of_heap HM4.out)).trans HM4.out; obtain ⟨⟨p0, p1⟩, _⟩ := two_block hm5; have HB5 := Lib.hid (HB4.out.trans (hb5.mono HB4.out.size)); clear hb5 hm5)
                  go_wp2_with (go_at_call 172; (with_reducible refine (HO.out _).mono ?_); rintro e w6 ⟨rfl, hw6⟩; subst w6)
                  go_roundg (x.mems.length - (k + 1))
                  case measure => omega
                  case rel => exact ⟨k + 1, _, _, by omega, by omega, by rw [Int.natCast_add]; rfl, by rw [HNext.out, List.map_append, HRest.out, HMN.out]; rfl, HB3.out.trans (HB5.out.mono HB3.out.size)⟩
              · have hfin := Lib.hid ((HMM.out _ HRest.out).1 _ (mem_check HNt.out HSe.out hc))
                have t3 : (checkS K mt != 0) = true := by simp [hc]
                clear hc
                generalize checkS K mt = c at *
                go_wp2_with (go_at_call 171; (with_reducible refine HCk.out.mono ?_); rintro e w5 ⟨rfl, hb5⟩; have HB5 := Lib.hid (HBW4.out.trans (hb5.mono HBW4.out.size)); clear hb5)
                go_ret
                exact oneEnd_no hfin.out HB5.out
        · obtain rfl : i = x.mems.length := by omega
          have t6 : (x.mems.length : Int) ≤ (x.mems.length : Int) := Int.le_refl _
          have HR := Lib.hid (show memsK K x.mems [] 0 1 = .inr (n, al) by rw [hR.out, List.drop_length, memsK])
          clear hR
          clear hcell
          go_upto_region 28 with fail
          cases a with
          | none => exact absurd rfl HAn.out
          | some ad =>
          have HSp := Lib.hid (fun a2 c2 mv2 w5 => size_new K L x n al HG.out HKL.out HKl.out (by omega) HR.out HN.out HT.out a2 c2 mv2 w5)
          have hxs : x.name.size ≤ 31 := by
            have := HN.out
            unfold isNameB at this
            simp at this; omega
          have hadd2 := add_namedT (⟨#[83]⟩ ++ x.name) ⟨#[59]⟩ (tyB (.str x.name.data.toList)) (tyB_eq (by simp [code])) (by rw [ByteArray.size_append]; show 1 + _ + 1 ≤ _; omega)
          have hadd1 := add_namedT ⟨#[83]⟩ x.name _ rfl (by show 1 + _ ≤ _; omega)
          generalize (⟨#[83]⟩ ++ x.name : ByteArray) = y1 at *
          generalize tyB (.str x.name.data.toList) = y2 at *
          obtain ⟨i0, hi, hz0', hz1, hz2⟩ := info_parts infoSt
          have HI0 := Lib.hid (And.intro hi (And.intro hz0' (And.intro hz1 hz2)))
          clear hi hz0' hz1 hz2
          have hzw : w.heap.size < wr.heap.size := lt_of_heap ((HB.out.block _ hz0).trans HW0.out)
          have HCl := Lib.hid (show ∀ w', Below wr.heap.size wr w' → w'.cell? ⟨w.heap.size, 0, none⟩ = some (.string x.name) ∧ w'.cell? ⟨w.heap.size, 1, none⟩ = some (.slice am x.mems.length cm) from fun w' hb => ⟨by rw [hb.cell hzw]; exact d0, by rw [hb.cell hzw]; exact d1⟩)
          have HSr := Lib.hid (show ∀ w', Below wr.heap.size wr w' → IsSrs w.heap.size w' (some ad) L mv from fun w' hb => HS.out.below (HBw.out.trans (hb.mono HBw.out.size)))
          have HMm := Lib.hid (show ∀ w', Below wr.heap.size wr w' → IsMems w.heap.size w' (.slice am x.mems.length cm) x.mems from fun w' hb => HMs.out.below (HBw.out.trans (hb.mono HBw.out.size)) (Nat.le_refl _))
          have HLn := Lib.hid (show (flat2 (pairS L mv)).length = L.length * 2 by rw [flat2_length, pairS_length HS.out.len])
          have HOne := Lib.hid (srs_one HS.out)
          have hLn : L.length ≤ 64 := by omega
          have h631 : 0 + L.length ≤ maxLen := by unfold maxLen; omega
          have h632 : L.length + 1 ≤ maxLen := by unfold maxLen; omega
          have h641 : (0 + L.length) * 40 ≤ 140737488355328 := by omega
          have h642 : (L.length + 1) * 40 ≤ 140737488355328 := by omega
          have HNums := Lib.hid (And.intro h631 (And.intro h632 (And.intro h641 h642)))
          clear h631 h632 h641 h642 hxs
          have HOwn := Lib.hid (show ∀ w2 v2, Below wr.heap.size wr w2 → w2.ownsRow wr.heap.size 114 2 v2 (L.length + 1) (flat2 (pairS (L ++ [x]) (mv ++ [.slice am x.mems.length cm]))) → ∃ a2 c2, v2 = .slice a2 (L ++ [x]).length c2 ∧ IsSrs w2.heap.size w2 a2 (L ++ [x]) (mv ++ [.slice am x.mems.length cm]) from fun w2 v2 hb h => by
            have hb0 := HBw.out.trans (hb.mono HBw.out.size)
            exact own_srs h (by simp) (by simp [HS.out.len]) (snoc_mems HS.out.len (fun i y v hy hv => (srs_mems (HSr.out w2 hb) i y v hy hv).mono hb0.size) ((HMm.out w2 hb).mono hb0.size)) (fun y hy => by
              rcases List.mem_append.1 hy with hy | hy
              · exact HS.out.names y hy
              · obtain rfl := List.mem_singleton.1 hy
                exact name_short HN.out))
          have hq := Lib.hid (show ((65536 : Int) < (cutN (fitN n al) : Nat) ∧ Hid (addK K x = .inl 3)) ∨ (((cutN (fitN n al) : Nat) : Int) ≤ 65536 ∧ Hid (addK K x = .inr { x with size := fitN n al, align := al })) by
            have h1 := (HMM.out _ HR.out).2 n al rfl
            by_cases hq : 65536 < fitN n al
            · rw [if_pos hq] at h1
              exact .inl ⟨by unfold cutN; omega, h1⟩
            · rw [if_neg hq] at h1
              exact .inr ⟨by unfold cutN; omega, h1⟩)
          generalize cutN (fitN n al) = cn at *
          go_region_held3 (fun w' => w'.cell? ⟨w.heap.size, 0, none⟩ = some (.string x.name) ∧ w'.cell? ⟨w.heap.size, 1, none⟩ = some (.slice am x.mems.length cm)) (first | (constructor <;> assumption) | exact HCl.out _ ((Below.refl _ _).drew) | exact HCl.out _ (blw1 _ _) | exact HCl.out _ (blw2 _ _ _) | exact HCl.out _ (HB1.out.alloc HB1.out.size _))
            (first
              | (refine step_append_own (by rfl) _ _ _ (by rfl) wr.heap.size 114 i0 (.agg #[.string ⟨#[]⟩, .slice none 0 0]) 2 40 Tryz.underlying61 HI0.out.1 HI0.out.2.1 HI0.out.2.2.1 HI0.out.2.2.2 (by rfl) (by decide) _ 0 [] (by rfl) (own_nil ?_ ?_) ad L.length cap (flat2 (pairS L mv)) (by rfl) HLn.out (srs_news (HSr.out _ ?_)) HOne.out HNums.out.1 HNums.out.2.2.1 ?_ ?_; (next => first | exact heap_alloc_new _ _ | exact heap_new1 _ _ _ | exact heap_new2 _ _ _); (next => first | exact Nat.le_refl _ | exact Nat.le_succ _); (next => first | exact blw1 _ _ | exact blw2 _ _ _); (next => first | exact (blw1 _ _).size | exact (blw2 _ _ _).size); intro v1 w1 hown1 hgrow1 _; have HO1 := Lib.hid (show w1.ownsRow wr.heap.size 114 2 v1 L.length (flat2 (pairS L mv)) by simpa using hown1); have HG1 := Lib.hid hgrow1; have HB1 := Lib.hid (show Below wr.heap.size wr w1 by (refine Below.grown ?_ hgrow1 ?_ ?_; (next => first | exact blw1 _ _ | exact blw2 _ _ _); (next => first | exact (blw1 _ _).size | exact (blw2 _ _ _).size); (next => intro q hq; simp [Value.ownBlock] at hq; omega))); clear hown1 hgrow1; obtain ⟨k0, k1⟩ := HCl.out _ HB1.out)
              | (refine step_append_own (by rfl) _ _ _ (by rfl) wr.heap.size 114 i0 (.agg #[.string ⟨#[]⟩, .slice none 0 0]) 2 40 Tryz.underlying61 HI0.out.1 HI0.out.2.1 HI0.out.2.2.1 HI0.out.2.2.2 (by rfl) (by decide) v1 L.length (flat2 (pairS L mv)) (by rfl) ?_ ⟨w1.heap.size, 0, none⟩ 1 1 [.string x.name, .slice am x.mems.length cm] (by rfl) (by rfl) (news2 (T := 114) ?_) ?_ HNums.out.2.1 HNums.out.2.2.2 ?_ ?_; (next => exact HO1.out.alloc _); (next => exact heap_alloc_new _ _); (next => simp [Value.oneCell']); (next => have := HB1.out.size; simp; omega); intro v2 w2 hown2 hgrow2 _; have HB2 := Lib.hid (show Below wr.heap.size wr w2 by (refine Below.grown ?_ hgrow2 ?_ ?_; (next => first | exact HB1.out | exact HB1.out.alloc HB1.out.size _); (next => have := HB1.out.size; simp; try omega); (next => intro q hq; exact (HO1.out.lt q hq).1))); have HO2 := Lib.hid (show w2.ownsRow wr.heap.size 114 2 v2 (L.length + 1) (flat2 (pairS (L ++ [x]) (mv ++ [.slice am x.mems.length cm]))) by rw [pairS_snoc HS.out.len, flat2_append]; exact hown2); clear hown2 hgrow2; obtain ⟨k2, k3⟩ := HCl.out _ HB2.out)
              | (refine step_append_own (by rfl) _ _ _ (by rfl) wr.heap.size 114 i0 (.agg #[.string ⟨#[]⟩, .slice none 0 0]) 2 40 Tryz.underlying61 HI0.out.1 HI0.out.2.1 HI0.out.2.2.1 HI0.out.2.2.2 (by rfl) (by decide) v1 L.length (flat2 (pairS L mv)) (by rfl) ?_ ⟨wr.heap.size + 1, 0, none⟩ 1 1 [.string x.name, .slice am x.mems.length cm] (by rfl) (by rfl) (news2 (T := 114) ?_) ?_ HNums.out.2.1 HNums.out.2.2.2 ?_ ?_; (next => exact HO1.out); (next => exact (HG1.out.block _ (by first | (simp; done) | (simp; omega)) (by simp [Value.ownBlock])).trans (heap_new2 _ _ _)); (next => simp [Value.oneCell']); (next => have := HB1.out.size; simp; omega); intro v2 w2 hown2 hgrow2 _; have HB2 := Lib.hid (show Below wr.heap.size wr w2 by (refine Below.grown ?_ hgrow2 ?_ ?_; (next => first | exact HB1.out | exact HB1.out.alloc HB1.out.size _); (next => have := HB1.out.size; simp; try omega); (next => intro q hq; exact (HO1.out.lt q hq).1))); have HO2 := Lib.hid (show w2.ownsRow wr.heap.size 114 2 v2 (L.length + 1) (flat2 (pairS (L ++ [x]) (mv ++ [.slice am x.mems.length cm]))) by rw [pairS_snoc HS.out.len, flat2_append]; exact hown2); clear hown2 hgrow2; obtain ⟨k2, k3⟩ := HCl.out _ HB2.out)
              | (refine step_append_own (by rfl) _ _ _ (by rfl) wr.heap.size 114 i0 (.agg #[.string ⟨#[]⟩, .slice none 0 0]) 2 40 Tryz.underlying61 HI0.out.1 HI0.out.2.1 HI0.out.2.2.1 HI0.out.2.2.2 (by rfl) (by decide) v1 L.length (flat2 (pairS L mv)) (by rfl) ?_ ⟨wr.heap.size, 0, none⟩ 1 1 [.string x.name, .slice am x.mems.length cm] (by rfl) (by rfl) (news2 (T := 114) ?_) ?_ HNums.out.2.1 HNums.out.2.2.2 ?_ ?_; (next => exact HO1.out); (next => exact (HG1.out.block _ (by first | (simp; done) | (simp; omega)) (by simp [Value.ownBlock])).trans (heap_new1 _ _ _)); (next => simp [Value.oneCell']); (next => have := HB1.out.size; simp; omega); intro v2 w2 hown2 hgrow2 _; have HB2 := Lib.hid (show Below wr.heap.size wr w2 by (refine Below.grown ?_ hgrow2 ?_ ?_; (next => first | exact HB1.out | exact HB1.out.alloc HB1.out.size _); (next => have := HB1.out.size; simp; try omega); (next => intro q hq; exact (HO1.out.lt q hq).1))); have HO2 := Lib.hid (show w2.ownsRow wr.heap.size 114 2 v2 (L.length + 1) (flat2 (pairS (L ++ [x]) (mv ++ [.slice am x.mems.length cm]))) by rw [pairS_snoc HS.out.len, flat2_append]; exact hown2); clear hown2 hgrow2; obtain ⟨k2, k3⟩ := HCl.out _ HB2.out)
              | (go_at_call 173; obtain ⟨a2, c2, rfl, hS2⟩ := HOwn.out _ _ HB2.out HO2.out; have HC2 := Lib.hid (HSp.out a2 c2 _ _ hS2); clear hS2; (with_reducible refine HC2.out.mono ?_); rintro e w5 ⟨rfl, hb5⟩; have HB5 := Lib.hid (HB2.out.trans (hb5.mono HB2.out.size)); clear hb5; obtain ⟨k4, k5⟩ := HCl.out _ HB5.out))
          all_goals
            have HBE := Lib.hid (HBw.out.trans (HB5.out.mono HBw.out.size))
            rcases hq.out with ⟨t4, hfin⟩ | ⟨t4, hfin⟩
            · go_wp2_with fail
              go_ret
              exact oneEnd_no hfin.out HBE.out
            · go_wp2_with fail
              go_ret
              exact oneEnd_yes hfin.out HBE.out
end Go.Proofs.YtkokdafkjjcgoaaGreatDoor

