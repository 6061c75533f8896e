/- Whether a type's structs are there; its bytes and its alignment: the program. · Whether no object in a type takes too much: the program. · Whether no object in a type takes too much: functions, all types; what is wrong with a type: the program. -/
import Derived.Test.YtkokdafkjjcgoaaGreatDoorMg16
import Derived.Laws.AppendOwnNone
namespace Go.Proofs.YtkokdafkjjcgoaaGreatDoor
open Go.RowKit

theorem place_some {K : List Kn} {n : List UInt8} : decide (0 ≤ placeK K n) = (findK K n).isSome := by
  unfold placeK
  cases findK K n <;> simp
set_option maxHeartbeats 1000000 in
theorem there_ok {B b mb : Nat} {lv sv av : Value} {mv : List Value} {K : List Kn} : ∀ (t : Ty) (w : World), Right t → (code t).length ≤ 65536 → TE w → KnAt B w b mb lv sv av mv K →
    Calls Tryz.prog 202 #[.pointer (some ⟨b, 0, none⟩), .string (tyB t)] w fun e w' => e = .returned (.bool (thereT K t)) ∧ Below w.heap.size w w'
  | .arr n u, w, hr, hl, hE, hK => by
    have ih := there_ok (B := B) (b := b) (mb := mb) (lv := lv) (sv := sv) (av := av) (mv := mv) (K := K) u
    have HE := Lib.hid hE
    have HK := Lib.hid hK
    have HS := Lib.hid (fun w hM => split_arr n u w hr hM hl)
    have HI := Lib.hid (fun w hE hK => ih w hr.2 (by rw [code] at hl; simp at hl; omega) hE hK)
    obtain ⟨h0, hc⟩ := tyB_head (.arr n u)
    have t1 : (((tyB (.arr n u))[0].toNat : Int) == 97) = true := eq_true' hc
    rw [show thereT K (.arr n u) = thereT K u by rw [thereT]]
    generalize tyB (.arr n u) = s at *
    generalize thereT K u = r at *
    clear hc hE hK ih hr hl
    go_enter Tryz.func202, Tryz.ntmps202
    go_wp2_with (go_at_call 150; (with_reducible refine (HS.out _ HE.out.maxl).mono ?_))
    rintro e w1 ⟨rfl, hb1⟩
    have HI1 := Lib.hid (HI.out _ (HE.out.below hb1) (HK.out.below hb1))
    go_wp2_with (go_at_call 202; (with_reducible refine HI1.out.mono ?_))
    rintro e w2 ⟨rfl, hb2⟩
    go_wp2_with fail
    go_ret
    exact ⟨rfl, hb1.trans (hb2.mono hb1.size)⟩
  | .str n, w, hr, hl, hE, hK => by
    have HS := Lib.hid (structOf_ok n hK hl)
    obtain ⟨h0, hc⟩ := tyB_head (.str n)
    have t1 : (((tyB (.str n))[0].toNat : Int) == 97) = false := eq_false' (d := 97) hc (by simp [headT])
    have t2 : (((tyB (.str n))[0].toNat : Int) == 83) = true := eq_true' hc
    rw [show thereT K (.str n) = decide (0 ≤ placeK K n) by rw [thereT, place_some]]
    generalize tyB (.str n) = s at *
    generalize placeK K n = i at *
    clear hc hE hK hr hl
    go_enter Tryz.func202, Tryz.ntmps202
    go_wp2_with (go_at_call 233; (with_reducible refine HS.out.mono ?_); rintro e w1 ⟨rfl, nq, rfl⟩)
    go_ret
    exact ⟨rfl, Below.drewN' w nq⟩
  | .base c, w, hr, _, _, _ => by
    obtain ⟨h0, hc⟩ := tyB_head (.base c)
    have t1 : (((tyB (.base c))[0].toNat : Int) == 97) = false := eq_false' (d := 97) hc (by rcases base_six hr with rfl | rfl | rfl | rfl | rfl | rfl <;> decide)
    have t2 : (((tyB (.base c))[0].toNat : Int) == 83) = false := eq_false' (d := 83) hc (by rcases base_six hr with rfl | rfl | rfl | rfl | rfl | rfl <;> decide)
    rw [show thereT K (.base c) = true by simp [thereT]]
    generalize tyB (.base c) = s at *
    clear hc hr
    go_enter Tryz.func202, Tryz.ntmps202
    go_wp2_with fail
    go_ret
    exact ⟨rfl, Below.refl _ _⟩
  | .ptr u, w, _, _, _, _ => by
    obtain ⟨h0, hc⟩ := tyB_head (.ptr u)
    have t1 : (((tyB (.ptr u))[0].toNat : Int) == 97) = false := eq_false' (d := 97) hc (by simp [headT])
    have t2 : (((tyB (.ptr u))[0].toNat : Int) == 83) = false := eq_false' (d := 83) hc (by simp [headT])
    rw [show thereT K (.ptr u) = true by simp [thereT]]
    generalize tyB (.ptr u) = s at *
    clear hc
    go_enter Tryz.func202, Tryz.ntmps202
    go_wp2_with fail
    go_ret
    exact ⟨rfl, Below.refl _ _⟩
  | .fn ps r, w, _, _, _, _ => by
    obtain ⟨h0, hc⟩ := tyB_head (.fn ps r)
    have t1 : (((tyB (.fn ps r))[0].toNat : Int) == 97) = false := eq_false' (d := 97) hc (by simp [headT])
    have t2 : (((tyB (.fn ps r))[0].toNat : Int) == 83) = false := eq_false' (d := 83) hc (by simp [headT])
    rw [show thereT K (.fn ps r) = true by simp [thereT]]
    generalize tyB (.fn ps r) = s at *
    clear hc
    go_enter Tryz.func202, Tryz.ntmps202
    go_wp2_with fail
    go_ret
    exact ⟨rfl, Below.refl _ _⟩

/-- the structs that are known are not too great -/
def FitK (K : List Kn) : Prop := K.length ≤ 64 ∧ ∀ k ∈ K, k.size ≤ 65536 ∧ 1 ≤ k.align ∧ k.align ≤ 4
/-- bytes, cut where the program cuts them -/
def capM (p : Nat × Nat) : Nat × Nat := (min p.1 1099511627776, p.2)
def measV (p : Nat × Nat) : Value := .tuple #[.int .i64 (p.1 : Int), .int .i64 (p.2 : Int)]
theorem find_lt {K : List Kn} {s : List UInt8} {i : Nat} (h : findK K s = some i) : i < K.length := by
  unfold findK at h
  exact (List.findIdx?_eq_some_iff_getElem.1 h).1
theorem meas_str {K : List Kn} {s : List UInt8} {i : Nat} (h : findK K s = some i) : measT K (.str s) = ((K[i]'(find_lt h)).size, (K[i]'(find_lt h)).align) := by
  rw [measT, h]
  simp [List.getElem?_eq_getElem (find_lt h)]
theorem cap_arr (n : Nat) (p : Nat × Nat) (h : n ≤ 65536) : capM (n * p.1, p.2) = (min (n * (capM p).1) 1099511627776, (capM p).2) := by
  unfold capM
  simp only [Prod.mk.injEq, and_true]
  rcases Nat.le_total p.1 1099511627776 with h1 | h1
  · rw [Nat.min_eq_left h1]
  · rw [Nat.min_eq_right h1]
    rcases Nat.eq_zero_or_pos n with rfl | hn
    · simp
    · have h2 : 1099511627776 ≤ n * 1099511627776 := Nat.le_mul_of_pos_left _ hn
      have h3 : n * 1099511627776 ≤ n * p.1 := Nat.mul_le_mul_left n h1
      omega
theorem meas_four (t : Ty) (b : Nat) (w : World) (h1 : headT t ≠ 99) (h2 : headT t ≠ 115) (h3 : headT t ≠ 106) (h4 : headT t ≠ 97) (h5 : headT t ≠ 83) :
    Calls Tryz.prog 199 #[.pointer (some ⟨b, 0, none⟩), .string (tyB t)] w fun e w' => e = .returned (.tuple #[.int .i64 4, .int .i64 4]) ∧ Below w.heap.size w w' := by
  obtain ⟨h0, hc⟩ := tyB_head t
  have t1 : (((tyB t)[0].toNat : Int) == 99) = false := eq_false' (d := 99) hc (h1)
  have t2 : (((tyB t)[0].toNat : Int) == 115) = false := eq_false' (d := 115) hc (h2)
  have t3 : (((tyB t)[0].toNat : Int) == 106) = false := eq_false' (d := 106) hc (h3)
  have t4 : (((tyB t)[0].toNat : Int) == 97) = false := eq_false' (d := 97) hc (h4)
  have t5 : (((tyB t)[0].toNat : Int) == 83) = false := eq_false' (d := 83) hc (h5)
  generalize tyB t = s at *
  clear hc h1 h2 h3 h4 h5
  go_enter Tryz.func199, Tryz.ntmps199
  go_wp2_with fail
  go_ret2
  exact ⟨rfl, Below.refl _ _⟩
theorem meas_c (t : Ty) (b : Nat) (w : World) (h : headT t = 99) :
    Calls Tryz.prog 199 #[.pointer (some ⟨b, 0, none⟩), .string (tyB t)] w fun e w' => e = .returned (.tuple #[.int .i64 1, .int .i64 1]) ∧ Below w.heap.size w w' := by
  obtain ⟨h0, hc⟩ := tyB_head t
  have t1 : (((tyB t)[0].toNat : Int) == 99) = true := by rw [hc, h]; rfl
  generalize tyB t = s at *
  clear hc h
  go_enter Tryz.func199, Tryz.ntmps199
  go_wp2_with fail
  go_ret2
  exact ⟨rfl, Below.refl _ _⟩
theorem meas_s (t : Ty) (b : Nat) (w : World) (h : headT t = 115) :
    Calls Tryz.prog 199 #[.pointer (some ⟨b, 0, none⟩), .string (tyB t)] w fun e w' => e = .returned (.tuple #[.int .i64 2, .int .i64 2]) ∧ Below w.heap.size w w' := by
  obtain ⟨h0, hc⟩ := tyB_head t
  have t1 : (((tyB t)[0].toNat : Int) == 99) = false := eq_false' (d := 99) hc (by rw [h]; decide)
  have t2 : (((tyB t)[0].toNat : Int) == 115) = true := by rw [hc, h]; rfl
  generalize tyB t = s at *
  clear hc h
  go_enter Tryz.func199, Tryz.ntmps199
  go_wp2_with fail
  go_ret2
  exact ⟨rfl, Below.refl _ _⟩
theorem meas_j (t : Ty) (b : Nat) (w : World) (h : headT t = 106) :
    Calls Tryz.prog 199 #[.pointer (some ⟨b, 0, none⟩), .string (tyB t)] w fun e w' => e = .returned (.tuple #[.int .i64 64, .int .i64 4]) ∧ Below w.heap.size w w' := by
  obtain ⟨h0, hc⟩ := tyB_head t
  have t1 : (((tyB t)[0].toNat : Int) == 99) = false := eq_false' (d := 99) hc (by rw [h]; decide)
  have t2 : (((tyB t)[0].toNat : Int) == 115) = false := eq_false' (d := 115) hc (by rw [h]; decide)
  have t3 : (((tyB t)[0].toNat : Int) == 106) = true := by rw [hc, h]; rfl
  generalize tyB t = s at *
  clear hc h
  go_enter Tryz.func199, Tryz.ntmps199
  go_wp2_with fail
  go_ret2
  exact ⟨rfl, Below.refl _ _⟩

set_option maxHeartbeats 1000000 in
theorem meas_S (n : List UInt8) {B b mb : Nat} {w : World} {lv sv av : Value} {mv : List Value} {K : List Kn} (hl : (code (.str n)).length ≤ 65536) (hK : KnAt B w b mb lv sv av mv K) (hF : FitK K) {i : Nat} (hlt : i < K.length) (hi : findK K n = some i) :
    Calls Tryz.prog 199 #[.pointer (some ⟨b, 0, none⟩), .string (tyB (.str n))] w fun e w' => e = .returned (.tuple #[.int .i64 ((K[i]'hlt).size : Int), .int .i64 ((K[i]'hlt).align : Int)]) ∧ Below w.heap.size w w' := by
  have HS := Lib.hid (show Calls Tryz.prog 233 #[.pointer (some ⟨b, 0, none⟩), .string (tyB (.str n))] w fun e w' => e = .returned (.int .i64 (i : Int)) ∧ ∃ n, w' = w.drewN n by
    have := structOf_ok n hK hl
    rw [show placeK K n = (i : Int) by unfold placeK; rw [hi]] at this
    exact this)
  obtain ⟨h0, hc⟩ := tyB_head (.str n)
  have t1 : (((tyB (.str n))[0].toNat : Int) == 99) = false := eq_false' (d := 99) hc (by simp [headT])
  have t2 : (((tyB (.str n))[0].toNat : Int) == 115) = false := eq_false' (d := 115) hc (by simp [headT])
  have t3 : (((tyB (.str n))[0].toNat : Int) == 106) = false := eq_false' (d := 106) hc (by simp [headT])
  have t4 : (((tyB (.str n))[0].toNat : Int) == 97) = false := eq_false' (d := 97) hc (by simp [headT])
  have t5 : (((tyB (.str n))[0].toNat : Int) == 83) = true := by rw [hc]; rfl
  obtain ⟨_, _, c2, c3⟩ := hK.cells
  obtain ⟨a1, cap1, rfl, hr1⟩ := own_formT hK.sizes
  obtain ⟨a2, cap2, rfl, hr2⟩ := own_formT hK.aligns
  obtain ⟨g1, rfl, _, _, hc1⟩ := hr1 (by omega)
  obtain ⟨g2, rfl, _, _, hc2⟩ := hr2 (by omega)
  have d1 := hc1 i _ (by rw [List.getElem?_map, List.getElem?_eq_getElem hlt]; rfl)
  have d2 := hc2 i _ (by rw [List.getElem?_map, List.getElem?_eq_getElem hlt]; rfl)
  have hk64 := hF.1
  generalize tyB (.str n) = s at *
  have hi1 : (i : Int) < K.length := by omega
  have hi2 : (K.length : Int) ≤ 64 := by omega
  clear hc hl hK hF hi hr1 hr2 hc1 hc2
  go_enter Tryz.func199, Tryz.ntmps199
  go_wp2_with (go_at_call 233; (with_reducible refine HS.out.mono ?_); rintro e w1 ⟨rfl, nq, rfl⟩)
  go_quiet (fail)
  go_wp2
  go_ret2
  exact ⟨rfl, blw_drewN (Below.drewN' w _) _⟩

set_option maxHeartbeats 1000000 in
theorem measure_ok {B b mb : Nat} {lv sv av : Value} {mv : List Value} {K : List Kn} : ∀ (t : Ty) (w : World), Right t → (code t).length ≤ 65536 → shapeT t = true → thereT K t = true → TE w → KnAt B w b mb lv sv av mv K → FitK K →
    Calls Tryz.prog 199 #[.pointer (some ⟨b, 0, none⟩), .string (tyB t)] w fun e w' => e = .returned (measV (capM (measT K t))) ∧ Below w.heap.size w w'
  | .base c, w, hr, _, _, _, _, _, _ => by
    rcases base_six hr with rfl | rfl | rfl | rfl | rfl | rfl
    · exact meas_four _ b w (by decide) (by decide) (by decide) (by decide) (by decide)
    · exact meas_c _ b w rfl
    · exact meas_s _ b w rfl
    · exact meas_four _ b w (by decide) (by decide) (by decide) (by decide) (by decide)
    · exact meas_four _ b w (by decide) (by decide) (by decide) (by decide) (by decide)
    · exact meas_j _ b w rfl
  | .ptr u, w, _, _, _, _, _, _, _ => meas_four _ b w (by simp [headT]) (by simp [headT]) (by simp [headT]) (by simp [headT]) (by simp [headT])
  | .fn ps r, w, _, _, _, _, _, _, _ => meas_four _ b w (by simp [headT]) (by simp [headT]) (by simp [headT]) (by simp [headT]) (by simp [headT])
  | .str n, w, hr, hl, _, ht, _, hK, hF => by
    rw [thereT] at ht
    obtain ⟨i, hi⟩ := Option.isSome_iff_exists.1 ht
    have := meas_S n hl hK hF (find_lt hi) hi
    have hm := meas_str hi
    have hs := (hF.2 (K[i]'(find_lt hi)) (List.getElem_mem _)).1
    rw [show measV (capM (measT K (.str n))) = .tuple #[.int .i64 ((K[i]'(find_lt hi)).size : Int), .int .i64 ((K[i]'(find_lt hi)).align : Int)] by
      rw [hm, capM, measV]
      simp only
      rw [Nat.min_eq_left (by omega)]]
    exact this
  | .arr n u, w, hr, hl, hsh, ht, hE, hK, hF => by
    have ih := measure_ok (B := B) (b := b) (mb := mb) (lv := lv) (sv := sv) (av := av) (mv := mv) (K := K) u
    have HE := Lib.hid hE
    have HK := Lib.hid hK
    rw [shapeT, Bool.and_eq_true, Bool.and_eq_true, decide_eq_true_iff] at hsh
    rw [thereT] at ht
    have HS := Lib.hid (fun w hM => split_arr n u w hr hM hl)
    have HI := Lib.hid (fun w hE hK => ih w hr.2 (by rw [code] at hl; simp at hl; omega) hsh.2.2 ht hE hK hF)
    obtain ⟨h0, hc⟩ := tyB_head (.arr n u)
    have t1 : (((tyB (.arr n u))[0].toNat : Int) == 99) = false := eq_false' (d := 99) hc (by simp [headT])
    have t2 : (((tyB (.arr n u))[0].toNat : Int) == 115) = false := eq_false' (d := 115) hc (by simp [headT])
    have t3 : (((tyB (.arr n u))[0].toNat : Int) == 106) = false := eq_false' (d := 106) hc (by simp [headT])
    have t4 : (((tyB (.arr n u))[0].toNat : Int) == 97) = true := by rw [hc]; rfl
    have hv : measT K (.arr n u) = (n * (measT K u).1, (measT K u).2) := by rw [measT]
    have HV := Lib.hid (show measV (capM (measT K (.arr n u))) = .tuple #[.int .i64 (min ((n : Int) * ((capM (measT K u)).1 : Int)) 1099511627776), .int .i64 ((capM (measT K u)).2 : Int)] by
      rw [hv, cap_arr n (measT K u) hsh.1.2, measV]
      have e : ((min (n * (capM (measT K u)).1) 1099511627776 : Nat) : Int) = min ((n : Int) * ((capM (measT K u)).1 : Int)) 1099511627776 := by
        rw [← Int.natCast_mul]; omega
      simp only [e])
    have hb1 : ((capM (measT K u)).1 : Int) ≤ 1099511627776 := by unfold capM; simp only; omega
    have hn1 : (n : Int) ≤ 65536 := by omega
    unfold measV at HI
    generalize capM (measT K u) = p at *
    obtain ⟨p1, p2⟩ := p
    simp only at HV hb1 HI
    have hm0 : (0 : Int) ≤ (n : Int) * (p1 : Int) := by exact_mod_cast Nat.zero_le _
    have hm1 : (n : Int) * (p1 : Int) ≤ 72057594037927936 := by
      have h1 : n * p1 ≤ 65536 * 1099511627776 := Nat.mul_le_mul (by omega) (by omega)
      have : ((n * p1 : Nat) : Int) ≤ ((65536 * 1099511627776 : Nat) : Int) := by exact_mod_cast h1
      rw [Int.natCast_mul] at this
      omega
    generalize tyB (.arr n u) = s at *
    clear hc hE hK ih hr hl hsh ht hF hv
    go_enter Tryz.func199, Tryz.ntmps199
    go_wp2_with (go_at_call 150; (with_reducible refine (HS.out _ HE.out.maxl).mono ?_))
    rintro e w1 ⟨rfl, hb1⟩
    have HI1 := Lib.hid (HI.out _ (HE.out.below hb1) (HK.out.below hb1))
    go_wp2_with (go_at_call 199; (with_reducible refine HI1.out.mono ?_))
    rintro e w2 ⟨rfl, hb2⟩
    go_wp2_with fail
    go_ret2
    exact ⟨by rw [HV.out]; rfl, hb1.trans (hb2.mono hb1.size)⟩

end Go.Proofs.YtkokdafkjjcgoaaGreatDoor
namespace Go.Proofs.YtkokdafkjjcgoaaGreatDoor
open Go.RowKit

def SizedC (B b mb : Nat) (lv sv av : Value) (mv : List Value) (K : List Kn) (t : Ty) : Prop := ∀ w, TE w → KnAt B w b mb lv sv av mv K →
  Calls Tryz.prog 203 #[.pointer (some ⟨b, 0, none⟩), .string (tyB t)] w fun e w' => e = .returned (.bool (sizedT K t)) ∧ Below w.heap.size w w'
section
variable {B b mb : Nat} {lv sv av : Value} {mv : List Value} {K : List Kn}
theorem sized_root (t : Ty) (h1 : headT t ≠ 112) (h2 : headT t ≠ 97) (h3 : headT t ≠ 102) (hs : sizedT K t = true) : SizedC B b mb lv sv av mv K t := by
  intro w hE hK
  rw [hs]
  obtain ⟨h0, hc⟩ := tyB_head t
  have t1 : (((tyB t)[0].toNat : Int) == 112) = false := eq_false' (d := 112) hc h1
  have t2 : (((tyB t)[0].toNat : Int) == 97) = false := eq_false' (d := 97) hc h2
  have t3 : (((tyB t)[0].toNat : Int) == 102) = false := eq_false' (d := 102) hc h3
  generalize tyB t = s at *
  clear hc hE h1 h2 h3 hs hK
  go_enter Tryz.func203, Tryz.ntmps203
  go_wp2_with fail
  go_ret
  exact ⟨rfl, Below.refl _ _⟩
theorem sized_ptr (u : Ty) (ih : SizedC B b mb lv sv av mv K u) : SizedC B b mb lv sv av mv K (.ptr u) := by
  intro w hE hK
  unfold SizedC at ih
  have HI := Lib.hid (ih w hE hK)
  rw [show sizedT K (.ptr u) = sizedT K u by rw [sizedT]]
  obtain ⟨h0, hc⟩ := tyB_head (.ptr u)
  have HX := Lib.hid (tyB_ext (t := .ptr u) (u := u) (k := 1) rfl)
  have t1 : (((tyB (.ptr u))[0].toNat : Int) == 112) = true := eq_true' hc
  generalize tyB (.ptr u) = s at *
  have h1 : (1 : Int) ≤ s.size := by omega
  generalize sizedT K u = r at *
  clear hc hE ih hK
  go_enter Tryz.func203, Tryz.ntmps203
  go_wp2_with fail
  rw [HX.out]
  refine HI.out.mono ?_
  rintro e w1 ⟨rfl, hb1⟩
  go_wp2_with fail
  go_ret
  exact ⟨rfl, hb1⟩
theorem cap_le (p : Nat × Nat) : decide (((capM p).1 : Int) ≤ 65536) = decide (p.1 ≤ 65536) := by
  rw [Bool.eq_iff_iff, decide_eq_true_iff, decide_eq_true_iff]
  unfold capM
  simp only
  omega
set_option maxHeartbeats 1000000 in
theorem sized_arr (n : Nat) (u : Ty) (hr : Right (.arr n u)) (hl : (code (.arr n u)).length ≤ 65536) (hsh : shapeT (.arr n u) = true) (hF : FitK K) (ih : SizedC B b mb lv sv av mv K u) : SizedC B b mb lv sv av mv K (.arr n u) := by
  intro w hE hK
  unfold SizedC at ih
  have HE := Lib.hid hE
  have HK := Lib.hid hK
  have HI := Lib.hid ih
  have HS := Lib.hid (fun w hM => split_arr n u w hr hM hl)
  have HT := Lib.hid (fun w hE hK => there_ok (B := B) (b := b) (mb := mb) (lv := lv) (sv := sv) (av := av) (mv := mv) (K := K) (.arr n u) w hr hl hE hK)
  have HM := Lib.hid (fun w hE hK ht => measure_ok (B := B) (b := b) (mb := mb) (lv := lv) (sv := sv) (av := av) (mv := mv) (K := K) (.arr n u) w hr hl hsh ht hE hK hF)
  obtain ⟨h0, hc⟩ := tyB_head (.arr n u)
  have t1 : (((tyB (.arr n u))[0].toNat : Int) == 112) = false := eq_false' (d := 112) hc (by simp [headT])
  have t2 : (((tyB (.arr n u))[0].toNat : Int) == 97) = true := eq_true' hc
  have hd : sizedT K (.arr n u) = (sizedT K u && (!thereT K (.arr n u) || decide ((measT K (.arr n u)).1 ≤ 65536))) := by
    rw [sizedT, show thereT K (.arr n u) = thereT K u by rw [thereT], show (measT K (.arr n u)).1 = n * (measT K u).1 by rw [measT]]
  have hcl := cap_le (measT K (.arr n u))
  generalize tyB (.arr n u) = s at *
  clear hc hE ih hr hl hsh hF hK
  rcases h1 : sizedT K u with _ | _
  · have H1 := Lib.hid h1
    have hfin := Lib.hid (show sizedT K (.arr n u) = false by rw [hd, h1]; rfl)
    clear hd h1 hcl
    go_enter Tryz.func203, Tryz.ntmps203
    go_wp2_with (go_at_call 150; (with_reducible refine (HS.out _ HE.out.maxl).mono ?_))
    rintro e w1 ⟨rfl, hb1⟩
    have HI1 := Lib.hid (HI.out _ (HE.out.below hb1) (HK.out.below hb1))
    rw [H1.out] at HI1
    go_wp2_with (go_at_call 203; (with_reducible refine HI1.out.mono ?_))
    rintro e w2 ⟨rfl, hb2⟩
    go_wp2_with fail
    go_ret
    exact ⟨by rw [hfin.out]; rfl, hb1.trans (hb2.mono hb1.size)⟩
  · have H1 := Lib.hid h1
    rcases h2 : thereT K (.arr n u) with _ | _
    · have H2 := Lib.hid h2
      have hfin := Lib.hid (show sizedT K (.arr n u) = true by rw [hd, h1, h2]; rfl)
      clear hd h1 h2 hcl
      go_enter Tryz.func203, Tryz.ntmps203
      go_wp2_with (go_at_call 150; (with_reducible refine (HS.out _ HE.out.maxl).mono ?_))
      rintro e w1 ⟨rfl, hb1⟩
      have HI1 := Lib.hid (HI.out _ (HE.out.below hb1) (HK.out.below hb1))
      rw [H1.out] at HI1
      go_wp2_with (go_at_call 203; (with_reducible refine HI1.out.mono ?_))
      rintro e w2 ⟨rfl, hb2⟩
      have HB2 := Lib.hid (hb1.trans (hb2.mono hb1.size))
      have HT2 := Lib.hid (HT.out _ (HE.out.below HB2.out) (HK.out.below HB2.out))
      rw [H2.out] at HT2
      go_wp2_with (go_at_call 202; (with_reducible refine HT2.out.mono ?_))
      rintro e w3 ⟨rfl, hb3⟩
      go_wp2_with fail
      go_ret
      exact ⟨by rw [hfin.out]; rfl, HB2.out.trans (hb3.mono HB2.out.size)⟩
    · have H2 := Lib.hid h2
      have hfin := Lib.hid (show sizedT K (.arr n u) = decide (((capM (measT K (.arr n u))).1 : Int) ≤ 65536) by rw [hd, h1, h2, hcl]; simp)
      unfold measV at HM
      generalize capM (measT K (.arr n u)) = p at *
      clear hd h1 h2 hcl
      go_enter Tryz.func203, Tryz.ntmps203
      go_wp2_with (go_at_call 150; (with_reducible refine (HS.out _ HE.out.maxl).mono ?_))
      rintro e w1 ⟨rfl, hb1⟩
      have HI1 := Lib.hid (HI.out _ (HE.out.below hb1) (HK.out.below hb1))
      rw [H1.out] at HI1
      go_wp2_with (go_at_call 203; (with_reducible refine HI1.out.mono ?_))
      rintro e w2 ⟨rfl, hb2⟩
      have HB2 := Lib.hid (hb1.trans (hb2.mono hb1.size))
      have HT2 := Lib.hid (HT.out _ (HE.out.below HB2.out) (HK.out.below HB2.out))
      rw [H2.out] at HT2
      go_wp2_with (go_at_call 202; (with_reducible refine HT2.out.mono ?_))
      rintro e w3 ⟨rfl, hb3⟩
      have HB3 := Lib.hid (HB2.out.trans (hb3.mono HB2.out.size))
      have HM3 := Lib.hid (HM.out _ (HE.out.below HB3.out) (HK.out.below HB3.out) H2.out)
      go_wp2_with (go_at_call 199; (with_reducible refine HM3.out.mono ?_))
      rintro e w4 ⟨rfl, hb4⟩
      go_wp2_with fail
      go_ret
      exact ⟨by rw [hfin.out]; rfl, HB3.out.trans (hb4.mono HB3.out.size)⟩
end

end Go.Proofs.YtkokdafkjjcgoaaGreatDoor
namespace Go.Proofs.YtkokdafkjjcgoaaGreatDoor
open Go.RowKit

theorem own_two {w : World} {base : Nat} {e : TypeId} {size : Nat} {v : Value} {n : Nat} {xs : List Value} (h : w.ownsRow base e size v n xs) : (v = .slice none 0 0 ∧ n = 0) ∨ ∃ g cap, v = .slice (some ⟨g, 0, none⟩) n cap ∧ base ≤ g ∧ g < w.heap.size ∧ ∀ j u, xs[j]? = some u → w.cell? ⟨g, j, none⟩ = some u := by
  rcases h.2 with ⟨rfl, rfl⟩ | ⟨g, cap, cur, rfl, hb, hg, _⟩
  · exact .inl ⟨rfl, rfl⟩
  · refine .inr ⟨g, cap, rfl, hb, lt_of_heap hg, fun j u hj => ?_⟩
    have := h.cells (g := g) rfl j u hj
    rwa [addr_add] at this
theorem sizeds_all (K : List Kn) (l : List Ty) : sizedsT K l = l.all (sizedT K) := by
  induction l with
  | nil => rfl
  | cons t l ih => rw [sizedsT, ih]; rfl
theorem c2_all (l : List Ty) : ∀ u ∈ l.map (fun p => Value.string (tyB p)), u.oneCell' = true := by
  intro u hu
  obtain ⟨p, _, rfl⟩ := List.mem_map.1 hu
  rfl

section
variable {B b mb : Nat} {lv sv av : Value} {mv : List Value} {K : List Kn}
set_option maxHeartbeats 4000000 in
theorem sized_fn (ps : List Ty) (r : Ty) (hr : Right (.fn ps r)) (hl : (code (.fn ps r)).length ≤ 65536) (ih : ∀ p ∈ r :: ps, SizedC B b mb lv sv av mv K p) : SizedC B b mb lv sv av mv K (.fn ps r) := by
  intro w hE hK
  have HE := Lib.hid hE
  have HK := Lib.hid hK
  have HI := Lib.hid ih
  have HS := Lib.hid (fun w hK hb => split_fn ps r w hr hl hK hb)
  have hps : ps.length ≤ 65536 := by
    have := rights_len hr.1
    rw [code] at hl; simp at hl; omega
  obtain ⟨h0, hc⟩ := tyB_head (.fn ps r)
  have t1 : (((tyB (.fn ps r))[0].toNat : Int) == 112) = false := eq_false' (d := 112) hc (by simp [headT])
  have t2 : (((tyB (.fn ps r))[0].toNat : Int) == 97) = false := eq_false' (d := 97) hc (by simp [headT])
  have t3 : (((tyB (.fn ps r))[0].toNat : Int) == 102) = true := eq_true' hc
  have hd : sizedT K (.fn ps r) = (r :: ps).all (sizedT K) := by rw [sizedT, sizeds_all]; rfl
  rw [hd]
  generalize tyB (.fn ps r) = s at *
  obtain ⟨i0, hi, hz0, hz1, hz2⟩ := info_parts infoT
  have HIn := Lib.hid (And.intro hi (And.intro hz0 (And.intro hz1 hz2)))
  clear hc hE ih hr hl hK hd hi hz0 hz1 hz2
  go_enter Tryz.func203, Tryz.ntmps203
  go_wp2_with (go_at_call 150; (with_reducible refine (HS.out _ HE.out.keys HE.out.lt).mono ?_))
  rintro e w1 ⟨⟨v, rfl, ho⟩, hb1⟩
  have HB1 := Lib.hid hb1
  have HO := Lib.hid ho
  have hn1 := own_new1 w1 34 (.string (tyB r))
  have HN := Lib.hid hn1
  clear hb1 ho hn1
  go_upto_region 14 with fail
  go_cut [58, 59, 60] (fun v6 l6 z6 w6 => l6 = .int .i64 ((r :: ps).length : Nat) ∧ z6 = .int .i64 0 ∧ (∃ g cap, v6 = .slice (some ⟨g, 0, none⟩) (r :: ps).length cap ∧ g < w6.heap.size ∧ ∀ j (hj : j < (r :: ps).length), w6.cell? ⟨g, j, none⟩ = some (.string (tyB (r :: ps)[j]))) ∧ Below w.heap.size w w6)
  case first =>
    rcases own_two HO.out with ⟨rfl, hz⟩ | ⟨g, cap, rfl, _, hg2, hcs⟩
    · have hnil : ps = [] := List.eq_nil_of_length_eq_zero hz
      subst hnil
      go_wp2_with (at_builtin; refine wpList_append_own_none _ rfl _ _ 168 rfl w1.heap.size 34 i0 1 Tryz.underlying168 HIn.out.1 _ 1 [.string (tyB r)] rfl HN.out rfl ?_)
      go_meet
      refine ⟨rfl, rfl, ⟨w1.heap.size, 1, rfl, by simp, fun j hj => ?_⟩, HB1.out.alloc HB1.out.size _⟩
      obtain rfl : j = 0 := by simp at hj; omega
      simp
    · have hA := Lib.hid (show Below w1.heap.size w1 (w1.alloc (.cells #[.string (tyB r)] 34)) from (Below.refl _ _).alloc (Nat.le_refl _) _)
      have hnews : ∀ j u, (ps.map fun p => Value.string (tyB p))[j]? = some u → (w1.alloc (.cells #[.string (tyB r)] 34)).cell? ((⟨g, 0, none⟩ : Addr).add j) = some u := fun j u hj => by
        rw [addr_add, hA.out.cell (p := ⟨g, j, none⟩) hg2]; exact hcs j u hj
      have HNw := Lib.hid hnews
      have hlen : (ps.map fun p => Value.string (tyB p)).length = ps.length * 1 := by simp
      have HLn := Lib.hid hlen
      clear hcs hnews hlen
      go_wp2_with (at_builtin; refine wpList_append_own _ rfl _ _ 168 rfl w1.heap.size 34 i0 (.string ⟨#[]⟩) 1 16 Tryz.underlying168 HIn.out.1 HIn.out.2.1 HIn.out.2.2.1 HIn.out.2.2.2 rfl (by decide) _ 1 [.string (tyB r)] rfl HN.out ⟨g, 0, none⟩ ps.length cap (ps.map fun p => Value.string (tyB p)) rfl HLn.out HNw.out (c2_all ps) ?c3 ?c4 ?c5 ?_)
      case c3 => unfold maxLen; omega
      case c4 => omega
      case c5 => simp
      intro v6 w6 hown hgrow hne
      rcases own_two hown with ⟨rfl, hz⟩ | ⟨g6, cap6, rfl, hg61, hg62, hcs⟩
      · omega
      · have HC := Lib.hid hcs
        have HB6 := Lib.hid ((HB1.out.alloc HB1.out.size _).grown hgrow (Nat.le_trans HB1.out.size hA.out.size) (fun q e => by have := (HN.out.lt _ e).1; have := HB1.out.size; omega))
        clear hown hgrow hne hcs
        go_wp2_with fail
        go_meet
        refine ⟨by congr 1; simp; omega, rfl, ⟨g6, cap6, by congr 1; simp; omega, hg62, fun j hj => HC.out j _ ?_⟩, HB6.out⟩
        cases j with
        | zero => simp
        | succ j =>
          have hj' : j < ps.length := by simpa using hj
          simp [hj']
  case rest =>
    obtain ⟨rfl, rfl, ⟨g, cap, rfl, hg, hcs⟩, hb6⟩ := hcut
    have HC := Lib.hid hcs
    have HB6 := Lib.hid hb6
    have hQ : (r :: ps).length ≤ 65537 := by simp; omega
    generalize hq : r :: ps = Q at *
    have HQ := Lib.hid hq
    clear hcs hb6 HO HB1 HN hq
    go_wp2_with fail
    go_loopw [60] (fun i wr => ∃ k : Nat, k ≤ Q.length ∧ i = .int .i64 k ∧ Hid (∀ j (hj : j < Q.length), j < k → sizedT K Q[j] = true) ∧ Below wc.heap.size wc wr) (fun i _ => Q.length - (intOf i).toNat)
    case atStart => exact ⟨0, Nat.zero_le _, rfl, fun j _ h => by omega, Below.refl _ _⟩
    case round =>
      obtain ⟨k, hk, rfl, hno, hb⟩ := hrel
      have HBr := Lib.hid hb
      have HBw := Lib.hid (HB6.out.trans (hb.mono HB6.out.size))
      have hsz := hb.size
      by_cases hlt : k < Q.length
      · have hck : wr.cell? ⟨g, k, none⟩ = some (.string (tyB Q[k])) := by
          rw [hb.cell (p := ⟨g, k, none⟩) hg]; exact HC.out k hlt
        have hD := HI.out Q[k] (List.getElem_mem hlt)
        unfold SizedC at hD
        have HD := Lib.hid (hD wr (HE.out.below HBw.out) (HK.out.below HBw.out))
        clear hb hD
        rcases hgd : sizedT K Q[k] with _ | _
        · have hfin := Lib.hid (show Q.all (sizedT K) = false by
            rw [Bool.eq_false_iff]; intro e
            have := List.all_eq_true.1 e Q[k] (List.getElem_mem hlt)
            rw [hgd] at this; cases this)
          rw [hgd] at HD
          generalize tyB Q[k] = st at *
          clear hgd
          go_wp2_with (go_at_call 203; (with_reducible refine HD.out.mono ?_))
          rintro e w7 ⟨rfl, hb7⟩
          go_wp2_with fail
          go_ret
          exact ⟨by rw [HQ.out, hfin.out]; rfl, HBw.out.trans (hb7.mono HBw.out.size)⟩
        · have HN := Lib.hid (show ∀ j (hj : j < Q.length), j < k + 1 → sizedT K Q[j] = true from fun j hj h => by
            rcases Nat.lt_or_ge j k with h' | h'
            · exact hno.out j hj h'
            · obtain rfl : j = k := by omega
              exact hgd)
          rw [hgd] at HD
          generalize tyB Q[k] = st at *
          clear hgd
          go_wp2_with (go_at_call 203; (with_reducible refine HD.out.mono ?_))
          rintro e w7 ⟨rfl, hb7⟩
          have HB7 := Lib.hid (HBr.out.trans (hb7.mono hsz))
          clear hb7
          go_wp2_with fail
          go_roundw
          case rel => exact ⟨k + 1, by omega, by go_num, HN, HB7.out⟩
          case measure => simp [intOf]; omega
      · obtain rfl : k = Q.length := by omega
        have hfin := Lib.hid (show Q.all (sizedT K) = true by
          rw [List.all_eq_true]
          intro p hp
          obtain ⟨j, hj, rfl⟩ := List.getElem_of_mem hp
          exact hno.out j hj hj)
        clear hno hb
        go_wp2_with fail
        go_ret
        exact ⟨by rw [HQ.out, hfin.out]; rfl, HBw.out⟩

theorem sized_all (hF : FitK K) : ∀ (n : Nat) (t : Ty), (code t).length ≤ n → Right t → (code t).length ≤ 65536 → shapeT t = true → SizedC B b mb lv sv av mv K t
  | 0, t, hn, hr, _, _ => by have := code_pos hr; omega
  | n + 1, t, hn, hr, hl, hs => by
    cases t with
    | base c => exact sized_root _ (by rcases base_six hr with rfl | rfl | rfl | rfl | rfl | rfl <;> decide) (by rcases base_six hr with rfl | rfl | rfl | rfl | rfl | rfl <;> decide) (by rcases base_six hr with rfl | rfl | rfl | rfl | rfl | rfl <;> decide) (by rw [sizedT])
    | str s => exact sized_root _ (by simp [headT]) (by simp [headT]) (by simp [headT]) (by rw [sizedT])
    | ptr u => exact sized_ptr u (sized_all hF n u (by rw [code] at hn; simp at hn; omega) hr (by rw [code] at hl; simp at hl; omega) (by rwa [shapeT] at hs))
    | arr m u =>
      have hs' := hs
      rw [shapeT, Bool.and_eq_true, Bool.and_eq_true] at hs'
      exact sized_arr m u hr hl hs hF (sized_all hF n u (by rw [code] at hn; simp at hn; omega) hr.2 (by rw [code] at hl; simp at hl; omega) hs'.2.2)
    | fn ps r =>
      rw [shapeT, Bool.and_eq_true, Bool.and_eq_true, Bool.and_eq_true] at hs
      refine sized_fn ps r hr hl fun p hp => ?_
      rw [code] at hn hl
      simp at hn hl
      rcases List.mem_cons.1 hp with rfl | hp
      · exact sized_all hF n p (by omega) hr.2 (by omega) hs.2.2.1
      · have h1 := codes_mem' hp
        have h2 : Right p := by
          obtain ⟨a, b, rfl⟩ := List.append_of_mem hp
          exact rights_at hr.1
        have h3 : shapeT p = true := by
          have := List.all_eq_true.1 (shapes_all ps ▸ hs.2.2.2) p hp
          simp only [Bool.and_eq_true] at this
          exact this.2
        exact sized_all hF n p (by omega) h2 (by omega) h3
end

end Go.Proofs.YtkokdafkjjcgoaaGreatDoor
