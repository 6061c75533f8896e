/- The walk of LexPlaces. -/
import Derived.Test.YtncojfcdkigmiaaDoorWorks
import Derived.Test.YtncojfcdkigmiaaDoorSame2
import Derived.Deep.LoopGhost
import Derived.Deep.DeepCutAuto
namespace Go.Proofs.YtncojfcdkigmiaaDoor
open Go.RowKit

theorem TokSl.toks {B : Nat} {w : World} {v : Value} {L : List Tok} {a : Option Addr} {n cap : Nat} (h : TokSl B w v L) (hv : v = .slice a n cap) : IsToks w.heap.size w a L := by
  obtain ⟨a', cap', rfl, _, hf⟩ := h
  simp only [Value.slice.injEq] at hv
  obtain ⟨rfl, _, _⟩ := hv
  intro hne
  obtain ⟨g, rfl, hg, hr, _⟩ := hf hne
  exact ⟨g, 0, rfl, hg, hr⟩
theorem TokRow.moved {w w' : World} {g off : Nat} {L : List Tok} (h : TokRow w g off L) (he : w'.heap[g]? = w.heap[g]?) : TokRow w' g off L := fun i t ht => by
  obtain ⟨h0, h1, h2, h3⟩ := h i t ht
  have key : ∀ o, w'.cell? ⟨g, o, none⟩ = w.cell? ⟨g, o, none⟩ := fun o => by unfold World.cell?; rw [he]
  rw [key, key, key, key]
  exact ⟨h0, h1, h2, h3⟩
theorem TokRow.drop {w : World} {g : Nat} {L : List Tok} (h : TokRow w g 0 L) (i : Nat) : TokRow w g (i * 4) (L.drop i) := fun j t ht => by
  rw [List.getElem?_drop] at ht
  have := h (i + j) t ht
  rw [Nat.zero_add, Nat.add_mul] at this
  exact this
theorem TokRow.take {w : World} {g : Nat} {L : List Tok} (h : TokRow w g 0 L) (i : Nat) : TokRow w g 0 (L.take i) := fun j t ht => by
  rw [List.getElem?_take] at ht
  split at ht
  · exact h j t ht
  · cases ht

theorem sameBytes_nil (w : World) : Calls Tryd.prog 13 #[.slice none 0 0, .slice none 0 0] w fun e w' => e = .returned (.bool true) ∧ w' = w := by
  have hcv := fun w => Lib.run_convert_nil_bytes (P := Tryd.prog) w 45 9 5 0 Tryd.underlying45 Tryd.underlying5 Tryd.underlying9
  go_enter Tryd.func13, Tryd.ntmps13
  go_wp2
  go_ret
  exact ⟨rfl, rfl⟩

/-- what is known of a text's tokens -/
theorem tokE_good {s : ByteArray} {L : List Tok} (h : tokE s = .good L) : s.size ≤ 65536 ∧ tokL 0 s.data.toList [] = .good L ∧ (L.map (·.place)).Pairwise (· < ·) ∧ (∀ x ∈ L.map (·.place), (0 : Int) ≤ x ∧ x < s.size) := by
  have hs : s.size ≤ 65536 := by
    unfold tokE at h
    split at h
    · cases h
    · omega
  rw [tokE_L hs] at h
  obtain ⟨h1, h2⟩ := tokL_rise _ _ _ _ h (by simp) (by simp)
  refine ⟨hs, h, h1, fun x hx => ?_⟩
  have := h2 x hx
  rw [size_pos_toList] at this
  simpa using this
theorem tokE_bad {s : ByteArray} {p : Nat} {x : Int} (h : tokE s = .bad p x) : p ≤ s.size ∧ 0 < x := by
  unfold tokE at h
  split at h
  · simp only [TEnd.bad.injEq] at h; omega
  · have e : tokF (s.size + 1) 0 s.data.toList [] = tokL 0 s.data.toList [] := by unfold tokL; rw [size_pos_toList]
    rw [e] at h
    have := tokL_bad _ _ _ _ _ h (by simp)
    rw [size_pos_toList] at this
    omega
theorem tokE_of {s : ByteArray} {L : List Tok} (hs : s.size ≤ 65536) (h : tokL 0 s.data.toList [] = .good L) : tokE s = .good L := by rw [tokE_L hs, h]
/-- a text that is cut at a token's place -/
theorem tokE_cut {s : ByteArray} {L : List Tok} (h : tokE s = .good L) {i : Nat} (hi : i < L.length) : ∃ p : Nat, p < s.size ∧ L[i].place = (p : Int) ∧ tokE (s.extract 0 p) = .good (L.take i) ∧ ∃ L', tokE (s.extract p s.size) = .good L' ∧ L'.map unp = (L.drop i).map unp := by
  obtain ⟨hs, h1, _, _⟩ := tokE_good h
  obtain ⟨p, hp, hpl, h2, L', h3, h4⟩ := tokL_cut _ _ _ _ h1 i hi (by simp)
  rw [size_pos_toList] at hp
  refine ⟨p, hp, by rw [hpl]; simp, tokE_of (by rw [ByteArray.size_extract]; omega) ?_, L', tokE_of (by rw [ByteArray.size_extract]; omega) ?_, h4⟩
  · rw [extract_toList' s p (by omega)]; exact h2
  · rw [sfx_extract]; exact h3

theorem tokL_len : ∀ k M out L, tokL k M out = .good L → out.length ≤ 16384 → L.length ≤ 16384 := by
  have key := tokL_ind (P := fun _ _ out e => ∀ L, e = .good L → out.length ≤ 16384 → L.length ≤ 16384) ?_ ?_
  · exact fun k M out L h => key k M out L h
  · intro k M out e h L he ho
    subst he
    obtain ⟨_, _, _, rfl⟩ := step_good h
    exact ho
  · intro k M out n out' h ih L he ho
    obtain ⟨b, t', j, _, _, h2, _, _, hp, _⟩ := step_more h
    refine ih L he ?_
    rcases hj : joins (M.drop b) out with _ | _
    · rw [put_new hj] at hp
      rw [hp, List.length_append]
      have : ¬ 16384 ≤ out.length := fun e => h2 ⟨hj, e⟩
      simp; omega
    · obtain ⟨q, t0, rfl⟩ := snoc_of (joins_ne hj)
      rw [put_joins hj, glue_snoc] at hp
      rw [hp]; simp at ho ⊢; exact ho
theorem fault_set {w : World} {b : Nat} {x y : Value} {T : TypeId} (h : w.heap[b]? = some (.cells #[x, y] T (0, 0))) (v v' : Value) : ((w.setCell ⟨b, 0, none⟩ v).setCell ⟨b, 1, none⟩ v').heap[b]? = some (.cells #[v, v'] T (0, 0)) := by
  simp [World.setCell, Array.getElem?_modify, h]
theorem idx_of (n : Int) (m : Nat) (h0 : 0 < m) (h1 : m ≤ 16384) : ∃ i : Nat, i < m ∧ wrap64 ((IntKind.u64.wrap n).tmod (m : Int)) = (i : Int) := by
  have hu : 0 ≤ IntKind.u64.wrap n := by rw [IntKind.wrap_u64]; exact Int.emod_nonneg _ (by decide)
  rw [Int.tmod_eq_emod_of_nonneg hu]
  have h2 := Int.emod_nonneg (IntKind.u64.wrap n) (show (m : Int) ≠ 0 by omega)
  have h3 := Int.emod_lt_of_pos (IntKind.u64.wrap n) (show (0 : Int) < m by omega)
  generalize IntKind.u64.wrap n % (m : Int) = x at h2 h3
  refine ⟨x.toNat, by omega, ?_⟩
  unfold wrap64
  omega
theorem place_get {L : List Tok} {i : Nat} (hi : i < L.length) : L[i].place ∈ L.map (·.place) := List.mem_map.2 ⟨L[i], List.getElem_mem hi, rfl⟩
theorem place_lt {L : List Tok} (h : (L.map (·.place)).Pairwise (· < ·)) {i j : Nat} (hij : i < j) (hj : j < L.length) : L[i].place < L[j].place := by
  rw [List.pairwise_iff_getElem] at h
  have := h i j (by simp; omega) (by simp; omega) hij
  simpa using this

set_option maxHeartbeats 4000000 in
set_option maxRecDepth 100000 in
theorem places_bad (s : ByteArray) (n : Int) (p : Nat) (x : Int) (w : World) (_hs : s.size ≤ 9223372036854775807) (hE : Env w) (h : tokE s = .bad p x) :
    Calls Tryd.prog 4 #[.string s, .int .i64 n] w fun e w' => e = .returned (.bool true) ∧ Below w.heap.size w w' := by
  have HE := Lib.hid hE
  have H := Lib.hid h
  obtain ⟨h1, h2⟩ := tokE_bad h
  have t1 : (x != 0) = true := by simp; omega
  have t2 : decide (p ≤ s.size) = true := by simp; omega
  clear hE h h1 h2
  go_enter Tryd.func4, Tryd.ntmps4
  go_wp2_with (go_at_call 11; refine (works_ok _ HE.out).mono ?_; rintro e w1 ⟨rfl, hb1⟩; have HB1 := Lib.hid hb1; clear hb1)
  have HE1 := Lib.hid (HE.out.below HB1.out)
  have hz1 := HB1.out.size
  refine (tokens_bad _ HE1.out H.out).mono ?_
  rintro e w2 ⟨rfl, hb2⟩
  have HB2 := Lib.hid (HB1.out.trans (hb2.mono hz1))
  clear hb2
  go_wp2
  go_ret
  exact ⟨rfl, HB2.out.alloc HB2.out.size _⟩

set_option maxHeartbeats 8000000 in
set_option maxRecDepth 100000 in
theorem places_good (s : ByteArray) (n : Int) (L : List Tok) (w : World) (hE : Env w) (h : tokE s = .good L) :
    Calls Tryd.prog 4 #[.string s, .int .i64 n] w fun e w' => e = .returned (.bool true) ∧ Below w.heap.size w w' := by
  have HE := Lib.hid hE
  have H := Lib.hid h
  obtain ⟨hs, hl, hp, hb⟩ := tokE_good h
  have hlen : L.length ≤ 16384 := tokL_len _ _ _ _ hl (by simp)
  have HP := Lib.hid (And.intro hp hb)
  have HC := Lib.hid (fun i (hi : i < L.length) => tokE_cut h hi)
  clear hE h hp hb hl
  go_enter Tryd.func4, Tryd.ntmps4
  go_wp2_with (go_at_call 11; refine (works_ok _ HE.out).mono ?_; rintro e w1 ⟨rfl, hb1⟩; have HB1 := Lib.hid hb1; clear hb1)
  have HE1 := Lib.hid (HE.out.below HB1.out)
  have hz1 := HB1.out.size
  refine (tokens_good _ HE1.out H.out).mono ?_
  rintro e w2 ⟨v2, rfl, h2, hb2⟩
  have HB2 := Lib.hid (HB1.out.trans (hb2.mono hz1))
  have HT2 := Lib.hid h2
  have hz2 := HB2.out.size
  obtain ⟨a, cap, rfl, hcap, hf⟩ := h2
  clear hb2
  go_wp2_with fail
  generalize hw3 : w2.alloc _ = w3
  have hb3 : Below w2.heap.size w2 w3 := by rw [← hw3]; exact (Below.refl _ _).alloc (Nat.le_refl _) _
  have HB3 := Lib.hid (HB2.out.trans (hb3.mono hz2))
  have hf6 : w3.heap[w2.heap.size]? = some (.cells #[.int .i64 0, .int .i64 0] 30 (0, 0)) := by rw [← hw3]; exact heap_alloc_new w2 _
  obtain ⟨⟨d0, d1⟩, fd⟩ := two_block hf6
  have hz3 : w2.heap.size < w3.heap.size := lt_of_heap hf6
  have fd0 := fd 0
  have fd1 := fd 1
  have hrow : L ≠ [] → ∃ g, a = some ⟨g, 0, none⟩ ∧ g < w2.heap.size ∧ TokRow w3 g 0 L := fun hne => by
    obtain ⟨g, e, hg, hr, _⟩ := hf hne
    exact ⟨g, e, hg, hr.below hb3 hg⟩
  have HRow := Lib.hid hrow
  have HF6 := Lib.hid hf6
  clear hf hw3 hb3 fd hf6 hrow
  go_loopg [7] L.length (fun g v wr => ∃ k : Nat, k ≤ L.length ∧ k + g = L.length ∧ v = .int .i64 k ∧ ∃ q, wr = w3.drewN q)
  case atStart => exact ⟨0, Nat.zero_le _, by omega, rfl, 0, rfl⟩
  case round =>
    obtain ⟨k, hk, hkg, rfl, q, rfl⟩ := hrel
    by_cases hlt : k < L.length
    · obtain ⟨g, rfl, hg, hr⟩ := HRow.out (by rintro rfl; simp at hlt)
      have c1 := (hr k L[k] (List.getElem?_eq_getElem hlt)).2.1
      rw [Nat.zero_add] at c1
      have hbd := HP.out.2 _ (place_get hlt)
      have t1 : decide (L[k].place < 0) = false := by simp; omega
      have t2 : decide ((s.size : Int) ≤ L[k].place) = false := by simp; omega
      by_cases h0 : k = 0
      · have t3 : decide (0 < k) = false := by simp; omega
        clear hr hbd h0
        go_wp2_with fail
        go_quiet (fail)
        go_wp2_with fail
        go_roundg (L.length - (k + 1))
        case measure => omega
        case rel => exact ⟨k + 1, by omega, by omega, by go_num, _, rfl⟩
      · have t3 : decide (0 < k) = true := by simp; omega
        have c0 := (hr (k - 1) L[k - 1] (List.getElem?_eq_getElem (by omega))).2.1
        rw [Nat.zero_add] at c0
        have t4 : decide (L[k].place ≤ L[k - 1].place) = false := by
          have := place_lt HP.out.1 (show k - 1 < k by omega) hlt
          simp; omega
        have w1' : IntKind.i64.wrap ((k : Int) - 1) = (k : Int) - 1 := IntWalk.i64_in _ (by omega)
        have e1 : ((k : Int) - 1).toNat = k - 1 := by omega
        have p1 : (0 : Int) ≤ (k : Int) - 1 := by omega
        have l1 : (k : Int) - 1 < L.length := by omega
        clear hr hbd h0
        go_wp2_with fail
        go_quiet (fail)
        go_wp2_with fail
        go_roundg (L.length - (k + 1))
        case measure => omega
        case rel => exact ⟨k + 1, by omega, by omega, by go_num, _, rfl⟩
    · obtain rfl : k = L.length := by omega
      by_cases hL : L.length = 0
      · have t1 : ((L.length : Int) == 0) = true := by rw [beq_iff_eq]; omega
        have HL := Lib.hid hL
        clear hL
        go_wp2_with fail
        go_ret
        exact ⟨rfl, blw_drewN HB3.out q⟩
      · have t1 : ((L.length : Int) == 0) = false := by rw [beq_eq_false_iff_ne]; omega
        have hL1 : 0 < L.length := by omega
        clear hL
        go_upto_region 13 with fail
        go_cut [8] (fun v wx => ∃ i : Nat, v = .int .i64 i ∧ i < L.length ∧ wx = w3.drewN q)
        case first =>
          go_wp2_with fail
          obtain ⟨i, hi, he⟩ := idx_of n L.length hL1 hlen
          rw [he]
          go_meet
          exact ⟨i, rfl, hi, rfl⟩
        case rest =>
          obtain ⟨i, rfl, hi, rfl⟩ := hcut
          obtain ⟨g, rfl, hg, hr⟩ := HRow.out (by rintro rfl; simp at hL1)
          obtain ⟨p, hps, hpl, hk1, L', hk2, hk3⟩ := HC.out i hi
          have HK := Lib.hid (And.intro hk1 (And.intro hk2 hk3))
          have HPl := Lib.hid hpl
          have c1 := (hr i L[i] (List.getElem?_eq_getElem hi)).2.1
          rw [Nat.zero_add, hpl] at c1
          have HR := Lib.hid hr
          have HE3 := Lib.hid ((HE.out.below HB3.out).drewN q)
          have hps' : (p : Int) ≤ s.size := by omega
          clear hr hpl hk1 hk2 hk3 HC
          go_wp2_with (go_at_call 12; refine (tokens_good _ HE3.out HK.out.1).mono ?_)
          rintro e w4 ⟨v4, rfl, h4, hb4⟩
          obtain ⟨a4, cap4, rfl, _, hf4⟩ := h4
          have hti : (L.take i).length = i := by rw [List.length_take]; omega
          rw [hti]
          have hb34 := (Below.drewN' w3 q).trans (hb4.mono (Nat.le_refl _))
          have hf4' := (hb34.block _ hz3).trans HF6.out
          obtain ⟨⟨d40, d41⟩, fd⟩ := two_block hf4'
          have fd40 := fd 0
          have fd41 := fd 1
          have HK4 := Lib.hid hf4
          have HB4 := Lib.hid (HB3.out.trans (hb34.mono HB3.out.size))
          have HR4 := Lib.hid (HR.out.below hb34 (by omega))
          have hz4 := hb34.size
          have HF4 := Lib.hid hf4'
          clear d0 d1 fd0 fd1 fd hb34 hb4 hf4 hf4' hti c1
          go_upto_region 15 with fail
          generalize hw5 : World.setCell _ _ _ = w5
          have hb45 : Below w2.heap.size w4 w5 := by rw [← hw5]; exact ((Below.refl _ _).setCell (by simp) _).setCell (by simp) _
          have hz5 : w5.heap.size = w4.heap.size := by rw [← hw5]; simp [World.setCell]
          have hf5 : w5.heap[w2.heap.size]? = some (.cells #[.int .i64 0, .int .i64 0] 30 (0, 0)) := by rw [← hw5]; exact fault_set HF4.out _ _
          obtain ⟨⟨d50, d51⟩, fd5⟩ := two_block hf5
          have hset : ∀ b, b ≠ w2.heap.size → w5.heap[b]? = w4.heap[b]? := fun b hb => by
            rw [← hw5, Below.heap_setCell _ _ _ _ hb, Below.heap_setCell _ _ _ _ hb]
          have HK5 := Lib.hid (show IsToks w5.heap.size w5 a4 (L.take i) from fun hne => by
            obtain ⟨g4, e4, hg4, hr4, hB4⟩ := HK4.out hne
            exact ⟨g4, 0, e4, by omega, hr4.moved (hset g4 (by simp at hB4; omega))⟩)
          have HB5 := Lib.hid (HB4.out.trans (hb45.mono hz2))
          have HR5 := Lib.hid (HR4.out.moved (hset g (by omega)))
          have HKL := Lib.hid (show IsToks w5.heap.size w5 (some ⟨g, 0, none⟩) (L.take i) from fun _ => ⟨g, 0, rfl, by omega, HR5.out.take i⟩)
          have hti : (L.take i).length = i := by rw [List.length_take]; omega
          have HS1 := Lib.hid (same_is1 a4 (some ⟨g, 0, none⟩) i cap4 cap (L.take i) w5 HK5.out HKL.out (by omega) hti)
          have hil : (i : Int) ≤ (L.length : Int) := by omega
          have hic : (i : Int) ≤ (cap : Int) := by omega
          have hc0 : 0 < cap := by omega
          have hc1 : ¬ cap = 0 := by omega
          have hc2 : ¬ cap = i := by omega
          have hic' : i ≤ cap := by omega
          have fd50 := fd5 0
          have fd51 := fd5 1
          clear hw5 hb45 hset hti fd5 d40 d41 fd40 fd41
          go_wp2_with (go_at_call 10; refine HS1.out.mono ?_)
          rintro e w6 ⟨rfl, hb6⟩
          have hz6 := hb6.size
          have hg5 : g < w5.heap.size := by omega
          have c6 : w6.cell? ⟨g, i * 4 + 1, none⟩ = some (.int .i64 p) := by
            have e := (HR5.out i L[i] (List.getElem?_eq_getElem hi)).2.1
            rw [Nat.zero_add] at e
            rw [hb6.cell hg5, e, HPl.out]
          have hf6 := (hb6.block _ (by omega : w2.heap.size < w5.heap.size)).trans hf5
          obtain ⟨⟨d60, d61⟩, fd6⟩ := two_block hf6
          have fd60 := fd6 0
          have fd61 := fd6 1
          have HF6' := Lib.hid hf6
          have HB6 := Lib.hid (HB5.out.trans (hb6.mono HB5.out.size))
          have HE6 := Lib.hid (HE.out.below HB6.out)
          have HR6 := Lib.hid (HR5.out.below hb6 (by omega))
          clear hb6 d50 d51 fd50 fd51 fd6 hf5 hf6
          go_wp2_with (go_at_call 12; refine (tokens_good _ HE6.out HK.out.2.1).mono ?_)
          rintro e w7 ⟨v7, rfl, h7, hb7⟩
          obtain ⟨a7, cap7, rfl, _, hf7⟩ := h7
          have hL' : L'.length = L.length - i := by
            have := congrArg List.length HK.out.2.2
            simpa using this
          rw [hL']
          have hz7 := hb7.size
          have hf7' := (hb7.block _ (by omega : w2.heap.size < w6.heap.size)).trans HF6'.out
          obtain ⟨⟨d70, d71⟩, fd7⟩ := two_block hf7'
          have fd70 := fd7 0
          have fd71 := fd7 1
          have HF7 := Lib.hid hf7'
          have HK7 := Lib.hid hf7
          have HB7 := Lib.hid (HB6.out.trans (hb7.mono HB6.out.size))
          have HR7 := Lib.hid (HR6.out.below hb7 (by omega))
          clear hb7 d60 d61 fd60 fd61 fd7 hf7 hf7' c6
          go_upto_region 18 with fail
          generalize hw8 : World.setCell _ _ _ = w8
          have hb78 : Below w2.heap.size w7 w8 := by rw [← hw8]; exact ((Below.refl _ _).setCell (by simp) _).setCell (by simp) _
          have hz8 : w8.heap.size = w7.heap.size := by rw [← hw8]; simp [World.setCell]
          have hf8 : w8.heap[w2.heap.size]? = some (.cells #[.int .i64 0, .int .i64 0] 30 (0, 0)) := by rw [← hw8]; exact fault_set HF7.out _ _
          obtain ⟨⟨d80, d81⟩, _⟩ := two_block hf8
          have hset : ∀ b, b ≠ w2.heap.size → w8.heap[b]? = w7.heap[b]? := fun b hb => by
            rw [← hw8, Below.heap_setCell _ _ _ _ hb, Below.heap_setCell _ _ _ _ hb]
          have HK8 := Lib.hid (show IsToks w8.heap.size w8 a7 L' from fun hne => by
            obtain ⟨g7, e7, hg7, hr7, hB7⟩ := HK7.out hne
            exact ⟨g7, 0, e7, by omega, hr7.moved (hset g7 (by omega))⟩)
          have HB8 := Lib.hid (HB7.out.trans (hb78.mono hz2))
          have HR8 := Lib.hid (HR7.out.moved (hset g (by omega)))
          have HKL8 := Lib.hid (show IsToks w8.heap.size w8 (some ⟨g, i * 4, none⟩) (L.drop i) from fun _ => ⟨g, i * 4, rfl, by omega, HR8.out.drop i⟩)
          have HS2 := Lib.hid (same_is2 a7 (some ⟨g, i * 4, none⟩) (L.length - i) cap7 (cap - i) L' (L.drop i) w8 HK8.out HKL8.out (by omega) hL' (by rw [List.length_drop]) HK.out.2.2)
          clear hw8 hb78 hset hf8 hL' d70 d71 fd70 fd71
          go_wp2_with (go_at_call 10; refine HS2.out.mono ?_)
          rintro e w9 ⟨rfl, hb9⟩
          have HB9 := Lib.hid (HB8.out.trans (hb9.mono HB8.out.size))
          clear hb9 d80 d81
          go_wp2_with (go_at_call 13; refine (sameBytes_nil _).mono ?_; rintro e w10 ⟨rfl, rfl⟩)
          go_ret
          exact ⟨rfl, HB9.out⟩

theorem places_ok (s : ByteArray) (n : Int) (w : World) (hs : s.size ≤ 9223372036854775807) (hE : Env w) :
    Calls Tryd.prog 4 #[.string s, .int .i64 n] w fun e w' => e = .returned (.bool true) ∧ Below w.heap.size w w' := by
  rcases h : tokE s with L | ⟨p, x⟩
  · exact places_good s n L w hE h
  · exact places_bad s n p x w hs hE h

end Go.Proofs.YtncojfcdkigmiaaDoor
