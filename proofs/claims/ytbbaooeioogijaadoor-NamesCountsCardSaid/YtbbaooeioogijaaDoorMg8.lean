/- Whether a type's structs are there; its bytes and its alignment: the program. · Whether no object in a type takes too much: the program. -/
import Derived.Test.YtbbaooeioogijaaDoorMg7
import Derived.Laws.AppendOwnNone
namespace Go.Proofs.YtbbaooeioogijaaDoor
open Go.RowKit

theorem place_some {K : List Kn} {n : List UInt8} : decide (0 ≤ placeK K n) = (findK K n).isSome := by
  unfold placeK
  cases findK K n <;> simp
set_option maxHeartbeats 1000000 in
theorem there_ok {B b mb : Nat} {lv sv av : Value} {mv : List Value} {K : List Kn} : ∀ (t : Ty) (w : World), Right t → (code t).length ≤ 65536 → TE w → KnAt B w b mb lv sv av mv K →
    Calls Tryd.prog 82 #[.pointer (some ⟨b, 0, none⟩), .string (tyB t)] w fun e w' => e = .returned (.bool (thereT K t)) ∧ Below w.heap.size w w'
  | .arr n u, w, hr, hl, hE, hK => by
    have ih := there_ok (B := B) (b := b) (mb := mb) (lv := lv) (sv := sv) (av := av) (mv := mv) (K := K) u
    have HE := Lib.hid hE
    have HK := Lib.hid hK
    have HS := Lib.hid (fun w hM => split_arr n u w hr hM hl)
    have HI := Lib.hid (fun w hE hK => ih w hr.2 (by rw [code] at hl; simp at hl; omega) hE hK)
    obtain ⟨h0, hc⟩ := tyB_head (.arr n u)
    have t1 : (((tyB (.arr n u))[0].toNat : Int) == 97) = true := eq_true' hc
    rw [show thereT K (.arr n u) = thereT K u by rw [thereT]]
    generalize tyB (.arr n u) = s at *
    generalize thereT K u = r at *
    clear hc hE hK ih hr hl
    go_enter Tryd.func82, Tryd.ntmps82
    go_wp2_with (go_at_call 72; (with_reducible refine (HS.out _ HE.out.maxl).mono ?_))
    rintro e w1 ⟨rfl, hb1⟩
    have HI1 := Lib.hid (HI.out _ (HE.out.below hb1) (HK.out.below hb1))
    go_wp2_with (go_at_call 82; (with_reducible refine HI1.out.mono ?_))
    rintro e w2 ⟨rfl, hb2⟩
    go_wp2_with fail
    go_ret
    exact ⟨rfl, hb1.trans (hb2.mono hb1.size)⟩
  | .str n, w, hr, hl, hE, hK => by
    have HS := Lib.hid (structOf_ok n hK hl)
    obtain ⟨h0, hc⟩ := tyB_head (.str n)
    have t1 : (((tyB (.str n))[0].toNat : Int) == 97) = false := eq_false' (d := 97) hc (by simp [headT])
    have t2 : (((tyB (.str n))[0].toNat : Int) == 83) = true := eq_true' hc
    rw [show thereT K (.str n) = decide (0 ≤ placeK K n) by rw [thereT, place_some]]
    generalize tyB (.str n) = s at *
    generalize placeK K n = i at *
    clear hc hE hK hr hl
    go_enter Tryd.func82, Tryd.ntmps82
    go_wp2_with (go_at_call 88; (with_reducible refine HS.out.mono ?_); rintro e w1 ⟨rfl, nq, rfl⟩)
    go_ret
    exact ⟨rfl, Below.drewN' w nq⟩
  | .base c, w, hr, _, _, _ => by
    obtain ⟨h0, hc⟩ := tyB_head (.base c)
    have t1 : (((tyB (.base c))[0].toNat : Int) == 97) = false := eq_false' (d := 97) hc (by rcases base_six hr with rfl | rfl | rfl | rfl | rfl | rfl <;> decide)
    have t2 : (((tyB (.base c))[0].toNat : Int) == 83) = false := eq_false' (d := 83) hc (by rcases base_six hr with rfl | rfl | rfl | rfl | rfl | rfl <;> decide)
    rw [show thereT K (.base c) = true by simp [thereT]]
    generalize tyB (.base c) = s at *
    clear hc hr
    go_enter Tryd.func82, Tryd.ntmps82
    go_wp2_with fail
    go_ret
    exact ⟨rfl, Below.refl _ _⟩
  | .ptr u, w, _, _, _, _ => by
    obtain ⟨h0, hc⟩ := tyB_head (.ptr u)
    have t1 : (((tyB (.ptr u))[0].toNat : Int) == 97) = false := eq_false' (d := 97) hc (by simp [headT])
    have t2 : (((tyB (.ptr u))[0].toNat : Int) == 83) = false := eq_false' (d := 83) hc (by simp [headT])
    rw [show thereT K (.ptr u) = true by simp [thereT]]
    generalize tyB (.ptr u) = s at *
    clear hc
    go_enter Tryd.func82, Tryd.ntmps82
    go_wp2_with fail
    go_ret
    exact ⟨rfl, Below.refl _ _⟩
  | .fn ps r, w, _, _, _, _ => by
    obtain ⟨h0, hc⟩ := tyB_head (.fn ps r)
    have t1 : (((tyB (.fn ps r))[0].toNat : Int) == 97) = false := eq_false' (d := 97) hc (by simp [headT])
    have t2 : (((tyB (.fn ps r))[0].toNat : Int) == 83) = false := eq_false' (d := 83) hc (by simp [headT])
    rw [show thereT K (.fn ps r) = true by simp [thereT]]
    generalize tyB (.fn ps r) = s at *
    clear hc
    go_enter Tryd.func82, Tryd.ntmps82
    go_wp2_with fail
    go_ret
    exact ⟨rfl, Below.refl _ _⟩

/-- the structs that are known are not too great -/
def FitK (K : List Kn) : Prop := K.length ≤ 64 ∧ ∀ k ∈ K, k.size ≤ 65536 ∧ 1 ≤ k.align ∧ k.align ≤ 4
/-- bytes, cut where the program cuts them -/
def capM (p : Nat × Nat) : Nat × Nat := (min p.1 1099511627776, p.2)
def measV (p : Nat × Nat) : Value := .tuple #[.int .i64 (p.1 : Int), .int .i64 (p.2 : Int)]
theorem find_lt {K : List Kn} {s : List UInt8} {i : Nat} (h : findK K s = some i) : i < K.length := by
  unfold findK at h
  exact (List.findIdx?_eq_some_iff_getElem.1 h).1
theorem meas_str {K : List Kn} {s : List UInt8} {i : Nat} (h : findK K s = some i) : measT K (.str s) = ((K[i]'(find_lt h)).size, (K[i]'(find_lt h)).align) := by
  rw [measT, h]
  simp [List.getElem?_eq_getElem (find_lt h)]
theorem cap_arr (n : Nat) (p : Nat × Nat) (h : n ≤ 65536) : capM (n * p.1, p.2) = (min (n * (capM p).1) 1099511627776, (capM p).2) := by
  unfold capM
  simp only [Prod.mk.injEq, and_true]
  rcases Nat.le_total p.1 1099511627776 with h1 | h1
  · rw [Nat.min_eq_left h1]
  · rw [Nat.min_eq_right h1]
    rcases Nat.eq_zero_or_pos n with rfl | hn
    · simp
    · have h2 : 1099511627776 ≤ n * 1099511627776 := Nat.le_mul_of_pos_left _ hn
      have h3 : n * 1099511627776 ≤ n * p.1 := Nat.mul_le_mul_left n h1
      omega
theorem meas_four (t : Ty) (b : Nat) (w : World) (h1 : headT t ≠ 99) (h2 : headT t ≠ 115) (h3 : headT t ≠ 106) (h4 : headT t ≠ 97) (h5 : headT t ≠ 83) :
    Calls Tryd.prog 76 #[.pointer (some ⟨b, 0, none⟩), .string (tyB t)] w fun e w' => e = .returned (.tuple #[.int .i64 4, .int .i64 4]) ∧ Below w.heap.size w w' := by
  obtain ⟨h0, hc⟩ := tyB_head t
  have t1 : (((tyB t)[0].toNat : Int) == 99) = false := eq_false' (d := 99) hc (h1)
  have t2 : (((tyB t)[0].toNat : Int) == 115) = false := eq_false' (d := 115) hc (h2)
  have t3 : (((tyB t)[0].toNat : Int) == 106) = false := eq_false' (d := 106) hc (h3)
  have t4 : (((tyB t)[0].toNat : Int) == 97) = false := eq_false' (d := 97) hc (h4)
  have t5 : (((tyB t)[0].toNat : Int) == 83) = false := eq_false' (d := 83) hc (h5)
  generalize tyB t = s at *
  clear hc h1 h2 h3 h4 h5
  go_enter Tryd.func76, Tryd.ntmps76
  go_wp2_with fail
  go_ret2
  exact ⟨rfl, Below.refl _ _⟩
theorem meas_c (t : Ty) (b : Nat) (w : World) (h : headT t = 99) :
    Calls Tryd.prog 76 #[.pointer (some ⟨b, 0, none⟩), .string (tyB t)] w fun e w' => e = .returned (.tuple #[.int .i64 1, .int .i64 1]) ∧ Below w.heap.size w w' := by
  obtain ⟨h0, hc⟩ := tyB_head t
  have t1 : (((tyB t)[0].toNat : Int) == 99) = true := by rw [hc, h]; rfl
  generalize tyB t = s at *
  clear hc h
  go_enter Tryd.func76, Tryd.ntmps76
  go_wp2_with fail
  go_ret2
  exact ⟨rfl, Below.refl _ _⟩
theorem meas_s (t : Ty) (b : Nat) (w : World) (h : headT t = 115) :
    Calls Tryd.prog 76 #[.pointer (some ⟨b, 0, none⟩), .string (tyB t)] w fun e w' => e = .returned (.tuple #[.int .i64 2, .int .i64 2]) ∧ Below w.heap.size w w' := by
  obtain ⟨h0, hc⟩ := tyB_head t
  have t1 : (((tyB t)[0].toNat : Int) == 99) = false := eq_false' (d := 99) hc (by rw [h]; decide)
  have t2 : (((tyB t)[0].toNat : Int) == 115) = true := by rw [hc, h]; rfl
  generalize tyB t = s at *
  clear hc h
  go_enter Tryd.func76, Tryd.ntmps76
  go_wp2_with fail
  go_ret2
  exact ⟨rfl, Below.refl _ _⟩
theorem meas_j (t : Ty) (b : Nat) (w : World) (h : headT t = 106) :
    Calls Tryd.prog 76 #[.pointer (some ⟨b, 0, none⟩), .string (tyB t)] w fun e w' => e = .returned (.tuple #[.int .i64 64, .int .i64 4]) ∧ Below w.heap.size w w' := by
  obtain ⟨h0, hc⟩ := tyB_head t
  have t1 : (((tyB t)[0].toNat : Int) == 99) = false := eq_false' (d := 99) hc (by rw [h]; decide)
  have t2 : (((tyB t)[0].toNat : Int) == 115) = false := eq_false' (d := 115) hc (by rw [h]; decide)
  have t3 : (((tyB t)[0].toNat : Int) == 106) = true := by rw [hc, h]; rfl
  generalize tyB t = s at *
  clear hc h
  go_enter Tryd.func76, Tryd.ntmps76
  go_wp2_with fail
  go_ret2
  exact ⟨rfl, Below.refl _ _⟩

set_option maxHeartbeats 1000000 in
theorem meas_S (n : List UInt8) {B b mb : Nat} {w : World} {lv sv av : Value} {mv : List Value} {K : List Kn} (hl : (code (.str n)).length ≤ 65536) (hK : KnAt B w b mb lv sv av mv K) (hF : FitK K) {i : Nat} (hlt : i < K.length) (hi : findK K n = some i) :
    Calls Tryd.prog 76 #[.pointer (some ⟨b, 0, none⟩), .string (tyB (.str n))] w fun e w' => e = .returned (.tuple #[.int .i64 ((K[i]'hlt).size : Int), .int .i64 ((K[i]'hlt).align : Int)]) ∧ Below w.heap.size w w' := by
  have HS := Lib.hid (show Calls Tryd.prog 88 #[.pointer (some ⟨b, 0, none⟩), .string (tyB (.str n))] w fun e w' => e = .returned (.int .i64 (i : Int)) ∧ ∃ n, w' = w.drewN n by
    have := structOf_ok n hK hl
    rw [show placeK K n = (i : Int) by unfold placeK; rw [hi]] at this
    exact this)
  obtain ⟨h0, hc⟩ := tyB_head (.str n)
  have t1 : (((tyB (.str n))[0].toNat : Int) == 99) = false := eq_false' (d := 99) hc (by simp [headT])
  have t2 : (((tyB (.str n))[0].toNat : Int) == 115) = false := eq_false' (d := 115) hc (by simp [headT])
  have t3 : (((tyB (.str n))[0].toNat : Int) == 106) = false := eq_false' (d := 106) hc (by simp [headT])
  have t4 : (((tyB (.str n))[0].toNat : Int) == 97) = false := eq_false' (d := 97) hc (by simp [headT])
  have t5 : (((tyB (.str n))[0].toNat : Int) == 83) = true := by rw [hc]; rfl
  obtain ⟨_, _, c2, c3⟩ := hK.cells
  obtain ⟨a1, cap1, rfl, hr1⟩ := own_formT hK.sizes
  obtain ⟨a2, cap2, rfl, hr2⟩ := own_formT hK.aligns
  obtain ⟨g1, rfl, _, _, hc1⟩ := hr1 (by omega)
  obtain ⟨g2, rfl, _, _, hc2⟩ := hr2 (by omega)
  have d1 := hc1 i _ (by rw [List.getElem?_map, List.getElem?_eq_getElem hlt]; rfl)
  have d2 := hc2 i _ (by rw [List.getElem?_map, List.getElem?_eq_getElem hlt]; rfl)
  have hk64 := hF.1
  generalize tyB (.str n) = s at *
  have hi1 : (i : Int) < K.length := by omega
  have hi2 : (K.length : Int) ≤ 64 := by omega
  clear hc hl hK hF hi hr1 hr2 hc1 hc2
  go_enter Tryd.func76, Tryd.ntmps76
  go_wp2_with (go_at_call 88; (with_reducible refine HS.out.mono ?_); rintro e w1 ⟨rfl, nq, rfl⟩)
  go_quiet (fail)
  go_wp2
  go_ret2
  exact ⟨rfl, blw_drewN (Below.drewN' w _) _⟩

set_option maxHeartbeats 1000000 in
theorem measure_ok {B b mb : Nat} {lv sv av : Value} {mv : List Value} {K : List Kn} : ∀ (t : Ty) (w : World), Right t → (code t).length ≤ 65536 → shapeT t = true → thereT K t = true → TE w → KnAt B w b mb lv sv av mv K → FitK K →
    Calls Tryd.prog 76 #[.pointer (some ⟨b, 0, none⟩), .string (tyB t)] w fun e w' => e = .returned (measV (capM (measT K t))) ∧ Below w.heap.size w w'
  | .base c, w, hr, _, _, _, _, _, _ => by
    rcases base_six hr with rfl | rfl | rfl | rfl | rfl | rfl
    · exact meas_four _ b w (by decide) (by decide) (by decide) (by decide) (by decide)
    · exact meas_c _ b w rfl
    · exact meas_s _ b w rfl
    · exact meas_four _ b w (by decide) (by decide) (by decide) (by decide) (by decide)
    · exact meas_four _ b w (by decide) (by decide) (by decide) (by decide) (by decide)
    · exact meas_j _ b w rfl
  | .ptr u, w, _, _, _, _, _, _, _ => meas_four _ b w (by simp [headT]) (by simp [headT]) (by simp [headT]) (by simp [headT]) (by simp [headT])
  | .fn ps r, w, _, _, _, _, _, _, _ => meas_four _ b w (by simp [headT]) (by simp [headT]) (by simp [headT]) (by simp [headT]) (by simp [headT])
  | .str n, w, hr, hl, _, ht, _, hK, hF => by
    rw [thereT] at ht
    obtain ⟨i, hi⟩ := Option.isSome_iff_exists.1 ht
    have := meas_S n hl hK hF (find_lt hi) hi
    have hm := meas_str hi
    have hs := (hF.2 (K[i]'(find_lt hi)) (List.getElem_mem _)).1
    rw [show measV (capM (measT K (.str n))) = .tuple #[.int .i64 ((K[i]'(find_lt hi)).size : Int), .int .i64 ((K[i]'(find_lt hi)).align : Int)] by
      rw [hm, capM, measV]
      simp only
      rw [Nat.min_eq_left (by omega)]]
    exact this
  | .arr n u, w, hr, hl, hsh, ht, hE, hK, hF => by
    have ih := measure_ok (B := B) (b := b) (mb := mb) (lv := lv) (sv := sv) (av := av) (mv := mv) (K := K) u
    have HE := Lib.hid hE
    have HK := Lib.hid hK
    rw [shapeT, Bool.and_eq_true, Bool.and_eq_true, decide_eq_true_iff] at hsh
    rw [thereT] at ht
    have HS := Lib.hid (fun w hM => split_arr n u w hr hM hl)
    have HI := Lib.hid (fun w hE hK => ih w hr.2 (by rw [code] at hl; simp at hl; omega) hsh.2.2 ht hE hK hF)
    obtain ⟨h0, hc⟩ := tyB_head (.arr n u)
    have t1 : (((tyB (.arr n u))[0].toNat : Int) == 99) = false := eq_false' (d := 99) hc (by simp [headT])
    have t2 : (((tyB (.arr n u))[0].toNat : Int) == 115) = false := eq_false' (d := 115) hc (by simp [headT])
    have t3 : (((tyB (.arr n u))[0].toNat : Int) == 106) = false := eq_false' (d := 106) hc (by simp [headT])
    have t4 : (((tyB (.arr n u))[0].toNat : Int) == 97) = true := by rw [hc]; rfl
    have hv : measT K (.arr n u) = (n * (measT K u).1, (measT K u).2) := by rw [measT]
    have HV := Lib.hid (show measV (capM (measT K (.arr n u))) = .tuple #[.int .i64 (min ((n : Int) * ((capM (measT K u)).1 : Int)) 1099511627776), .int .i64 ((capM (measT K u)).2 : Int)] by
      rw [hv, cap_arr n (measT K u) hsh.1.2, measV]
      have e : ((min (n * (capM (measT K u)).1) 1099511627776 : Nat) : Int) = min ((n : Int) * ((capM (measT K u)).1 : Int)) 1099511627776 := by
        rw [← Int.natCast_mul]; omega
      simp only [e])
    have hb1 : ((capM (measT K u)).1 : Int) ≤ 1099511627776 := by unfold capM; simp only; omega
    have hn1 : (n : Int) ≤ 65536 := by omega
    unfold measV at HI
    generalize capM (measT K u) = p at *
    obtain ⟨p1, p2⟩ := p
    simp only at HV hb1 HI
    have hm0 : (0 : Int) ≤ (n : Int) * (p1 : Int) := by exact_mod_cast Nat.zero_le _
    have hm1 : (n : Int) * (p1 : Int) ≤ 72057594037927936 := by
      have h1 : n * p1 ≤ 65536 * 1099511627776 := Nat.mul_le_mul (by omega) (by omega)
      have : ((n * p1 : Nat) : Int) ≤ ((65536 * 1099511627776 : Nat) : Int) := by exact_mod_cast h1
      rw [Int.natCast_mul] at this
      omega
    generalize tyB (.arr n u) = s at *
    clear hc hE hK ih hr hl hsh ht hF hv
    go_enter Tryd.func76, Tryd.ntmps76
    go_wp2_with (go_at_call 72; (with_reducible refine (HS.out _ HE.out.maxl).mono ?_))
    rintro e w1 ⟨rfl, hb1⟩
    have HI1 := Lib.hid (HI.out _ (HE.out.below hb1) (HK.out.below hb1))
    go_wp2_with (go_at_call 76; (with_reducible refine HI1.out.mono ?_))
    rintro e w2 ⟨rfl, hb2⟩
    go_wp2_with fail
    go_ret2
    exact ⟨by rw [HV.out]; rfl, hb1.trans (hb2.mono hb1.size)⟩

end Go.Proofs.YtbbaooeioogijaaDoor
namespace Go.Proofs.YtbbaooeioogijaaDoor
open Go.RowKit

def SizedC (B b mb : Nat) (lv sv av : Value) (mv : List Value) (K : List Kn) (t : Ty) : Prop := ∀ w, TE w → KnAt B w b mb lv sv av mv K →
  Calls Tryd.prog 83 #[.pointer (some ⟨b, 0, none⟩), .string (tyB t)] w fun e w' => e = .returned (.bool (sizedT K t)) ∧ Below w.heap.size w w'
section
variable {B b mb : Nat} {lv sv av : Value} {mv : List Value} {K : List Kn}
theorem sized_root (t : Ty) (h1 : headT t ≠ 112) (h2 : headT t ≠ 97) (h3 : headT t ≠ 102) (hs : sizedT K t = true) : SizedC B b mb lv sv av mv K t := by
  intro w hE hK
  rw [hs]
  obtain ⟨h0, hc⟩ := tyB_head t
  have t1 : (((tyB t)[0].toNat : Int) == 112) = false := eq_false' (d := 112) hc h1
  have t2 : (((tyB t)[0].toNat : Int) == 97) = false := eq_false' (d := 97) hc h2
  have t3 : (((tyB t)[0].toNat : Int) == 102) = false := eq_false' (d := 102) hc h3
  generalize tyB t = s at *
  clear hc hE h1 h2 h3 hs hK
  go_enter Tryd.func83, Tryd.ntmps83
  go_wp2_with fail
  go_ret
  exact ⟨rfl, Below.refl _ _⟩
theorem sized_ptr (u : Ty) (ih : SizedC B b mb lv sv av mv K u) : SizedC B b mb lv sv av mv K (.ptr u) := by
  intro w hE hK
  unfold SizedC at ih
  have HI := Lib.hid (ih w hE hK)
  rw [show sizedT K (.ptr u) = sizedT K u by rw [sizedT]]
  obtain ⟨h0, hc⟩ := tyB_head (.ptr u)
  have HX := Lib.hid (tyB_ext (t := .ptr u) (u := u) (k := 1) rfl)
  have t1 : (((tyB (.ptr u))[0].toNat : Int) == 112) = true := eq_true' hc
  generalize tyB (.ptr u) = s at *
  have h1 : (1 : Int) ≤ s.size := by omega
  generalize sizedT K u = r at *
  clear hc hE ih hK
  go_enter Tryd.func83, Tryd.ntmps83
  go_wp2_with fail
  rw [HX.out]
  refine HI.out.mono ?_
  rintro e w1 ⟨rfl, hb1⟩
  go_wp2_with fail
  go_ret
  exact ⟨rfl, hb1⟩
theorem cap_le (p : Nat × Nat) : decide (((capM p).1 : Int) ≤ 65536) = decide (p.1 ≤ 65536) := by
  rw [Bool.eq_iff_iff, decide_eq_true_iff, decide_eq_true_iff]
  unfold capM
  simp only
  omega
set_option maxHeartbeats 1000000 in
theorem sized_arr (n : Nat) (u : Ty) (hr : Right (.arr n u)) (hl : (code (.arr n u)).length ≤ 65536) (hsh : shapeT (.arr n u) = true) (hF : FitK K) (ih : SizedC B b mb lv sv av mv K u) : SizedC B b mb lv sv av mv K (.arr n u) := by
  intro w hE hK
  unfold SizedC at ih
  have HE := Lib.hid hE
  have HK := Lib.hid hK
  have HI := Lib.hid ih
  have HS := Lib.hid (fun w hM => split_arr n u w hr hM hl)
  have HT := Lib.hid (fun w hE hK => there_ok (B := B) (b := b) (mb := mb) (lv := lv) (sv := sv) (av := av) (mv := mv) (K := K) (.arr n u) w hr hl hE hK)
  have HM := Lib.hid (fun w hE hK ht => measure_ok (B := B) (b := b) (mb := mb) (lv := lv) (sv := sv) (av := av) (mv := mv) (K := K) (.arr n u) w hr hl hsh ht hE hK hF)
  obtain ⟨h0, hc⟩ := tyB_head (.arr n u)
  have t1 : (((tyB (.arr n u))[0].toNat : Int) == 112) = false := eq_false' (d := 112) hc (by simp [headT])
  have t2 : (((tyB (.arr n u))[0].toNat : Int) == 97) = true := eq_true' hc
  have hd : sizedT K (.arr n u) = (sizedT K u && (!thereT K (.arr n u) || decide ((measT K (.arr n u)).1 ≤ 65536))) := by
    rw [sizedT, show thereT K (.arr n u) = thereT K u by rw [thereT], show (measT K (.arr n u)).1 = n * (measT K u).1 by rw [measT]]
  have hcl := cap_le (measT K (.arr n u))
  generalize tyB (.arr n u) = s at *
  clear hc hE ih hr hl hsh hF hK
  rcases h1 : sizedT K u with _ | _
  · have H1 := Lib.hid h1
    have hfin := Lib.hid (show sizedT K (.arr n u) = false by rw [hd, h1]; rfl)
    clear hd h1 hcl
    go_enter Tryd.func83, Tryd.ntmps83
    go_wp2_with (go_at_call 72; (with_reducible refine (HS.out _ HE.out.maxl).mono ?_))
    rintro e w1 ⟨rfl, hb1⟩
    have HI1 := Lib.hid (HI.out _ (HE.out.below hb1) (HK.out.below hb1))
    rw [H1.out] at HI1
    go_wp2_with (go_at_call 83; (with_reducible refine HI1.out.mono ?_))
    rintro e w2 ⟨rfl, hb2⟩
    go_wp2_with fail
    go_ret
    exact ⟨by rw [hfin.out]; rfl, hb1.trans (hb2.mono hb1.size)⟩
  · have H1 := Lib.hid h1
    rcases h2 : thereT K (.arr n u) with _ | _
    · have H2 := Lib.hid h2
      have hfin := Lib.hid (show sizedT K (.arr n u) = true by rw [hd, h1, h2]; rfl)
      clear hd h1 h2 hcl
      go_enter Tryd.func83, Tryd.ntmps83
      go_wp2_with (go_at_call 72; (with_reducible refine (HS.out _ HE.out.maxl).mono ?_))
      rintro e w1 ⟨rfl, hb1⟩
      have HI1 := Lib.hid (HI.out _ (HE.out.below hb1) (HK.out.below hb1))
      rw [H1.out] at HI1
      go_wp2_with (go_at_call 83; (with_reducible refine HI1.out.mono ?_))
      rintro e w2 ⟨rfl, hb2⟩
      have HB2 := Lib.hid (hb1.trans (hb2.mono hb1.size))
      have HT2 := Lib.hid (HT.out _ (HE.out.below HB2.out) (HK.out.below HB2.out))
      rw [H2.out] at HT2
      go_wp2_with (go_at_call 82; (with_reducible refine HT2.out.mono ?_))
      rintro e w3 ⟨rfl, hb3⟩
      go_wp2_with fail
      go_ret
      exact ⟨by rw [hfin.out]; rfl, HB2.out.trans (hb3.mono HB2.out.size)⟩
    · have H2 := Lib.hid h2
      have hfin := Lib.hid (show sizedT K (.arr n u) = decide (((capM (measT K (.arr n u))).1 : Int) ≤ 65536) by rw [hd, h1, h2, hcl]; simp)
      unfold measV at HM
      generalize capM (measT K (.arr n u)) = p at *
      clear hd h1 h2 hcl
      go_enter Tryd.func83, Tryd.ntmps83
      go_wp2_with (go_at_call 72; (with_reducible refine (HS.out _ HE.out.maxl).mono ?_))
      rintro e w1 ⟨rfl, hb1⟩
      have HI1 := Lib.hid (HI.out _ (HE.out.below hb1) (HK.out.below hb1))
      rw [H1.out] at HI1
      go_wp2_with (go_at_call 83; (with_reducible refine HI1.out.mono ?_))
      rintro e w2 ⟨rfl, hb2⟩
      have HB2 := Lib.hid (hb1.trans (hb2.mono hb1.size))
      have HT2 := Lib.hid (HT.out _ (HE.out.below HB2.out) (HK.out.below HB2.out))
      rw [H2.out] at HT2
      go_wp2_with (go_at_call 82; (with_reducible refine HT2.out.mono ?_))
      rintro e w3 ⟨rfl, hb3⟩
      have HB3 := Lib.hid (HB2.out.trans (hb3.mono HB2.out.size))
      have HM3 := Lib.hid (HM.out _ (HE.out.below HB3.out) (HK.out.below HB3.out) H2.out)
      go_wp2_with (go_at_call 76; (with_reducible refine HM3.out.mono ?_))
      rintro e w4 ⟨rfl, hb4⟩
      go_wp2_with fail
      go_ret
      exact ⟨by rw [hfin.out]; rfl, HB3.out.trans (hb4.mono HB3.out.size)⟩
end

end Go.Proofs.YtbbaooeioogijaaDoor
