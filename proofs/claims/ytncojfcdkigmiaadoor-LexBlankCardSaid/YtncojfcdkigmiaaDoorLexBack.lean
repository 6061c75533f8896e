/- The walk of LexBack. (Printed by wip/tools/gen-back.py.) -/
import Derived.Test.YtncojfcdkigmiaaDoorLexPlaces
import Derived.Test.YtncojfcdkigmiaaDoorBackP2
import Derived.Test.YtncojfcdkigmiaaDoorOpenTok
namespace Go.Proofs.YtncojfcdkigmiaaDoor
open Go.RowKit

theorem allGood_mem {L : List Tok} (h : allGood L = true) : ∀ t ∈ L, goodB t = true := by
  unfold allGood at h
  rw [List.all_eq_true] at h
  exact h
theorem good_tok {t : Tok} (h : goodB t = true) : TokOk t := by
  have hs := good_size h
  refine ⟨?_, ?_, by omega⟩
  all_goals
    unfold goodB goodNum at h
    split at h
    · split at h
      · rw [decide_eq_true_eq] at h; omega
      · rw [Bool.and_eq_true, decide_eq_true_eq, decide_eq_true_eq] at h; omega
    · split at h
      · cases h
      · rename_i h0; have : t.num = 0 := by simpa using h0
        omega
theorem noAdj_of : ∀ {L : List Tok}, (∀ j (h : j + 1 < L.length), ¬ (isStr L[j] = true ∧ isStr L[j + 1] = true)) → NoAdj L
  | [], _ => trivial
  | [_], _ => trivial
  | x :: y :: l, h => ⟨h 0 (by simp), noAdj_of (L := y :: l) (fun j hj => h (j + 1) (by simpa using hj))⟩
theorem lay_good {L : List Tok} (h : ∀ t ∈ L, goodB t = true) : allGood L = true := by unfold allGood; rw [List.all_eq_true]; exact h
theorem size_join (L : List Tok) : ByteArray.size ⟨(Lib.join (L.map wordL) [32]).toArray⟩ = (Lib.join (L.map wordL) [32]).length := size_mk _

set_option maxHeartbeats 8000000 in
set_option maxRecDepth 100000 in
theorem back_bad (a : Option Addr) (cap : Nat) (L : List Tok) (s : ByteArray) (p : Nat) (y : Int) (w : World) (hL : IsToks w.heap.size w a L) (hok : ∀ t ∈ L, TokOk t) (hn : L.length ≤ 1048576) (hE : Env w) (hP : PowAt w) (hg : 3 < w.heap.size) (h : tokE s = .bad p y) :
    Calls Tryd.prog 6 #[.slice a L.length cap, .string s] w fun e w' => e = .returned (.bool true) ∧ Below w.heap.size w w' := by
  have HL := Lib.hid hL
  have HOK := Lib.hid hok
  have HE := Lib.hid hE
  have HP := Lib.hid hP
  have H := Lib.hid h
  have hy := (tokE_bad h).2
  have t1 : (y == 0) = false := by rw [beq_eq_false_iff_ne]; omega
  clear hL hok hE hP h hy
  go_enter Tryd.func6, Tryd.ntmps6
  go_wp2_with (go_at_call 11; refine (works_ok _ HE.out).mono ?_; rintro e w1 ⟨rfl, hb1⟩; have HB1 := Lib.hid hb1; clear hb1)
  have HE1 := Lib.hid (HE.out.below HB1.out)
  have hz1 := HB1.out.size
  refine (tokens_bad _ HE1.out H.out).mono ?_
  rintro e w2 ⟨rfl, hb2⟩
  have HB2 := Lib.hid (HB1.out.trans (hb2.mono hz1))
  clear hb2
  go_upto_region 12 with fail
  generalize hwx : w2.alloc _ = wx
  have HBx := Lib.hid (show Below w.heap.size w wx by rw [← hwx]; exact HB2.out.alloc HB2.out.size _)
  have HLx := Lib.hid (HL.out.below HBx.out (Nat.le_refl _) |>.more HBx.out.size)
  have HEx := Lib.hid (HE.out.below HBx.out)
  have HPx := Lib.hid (HP.out.below HBx.out hg)
  have hgx := Nat.lt_of_lt_of_le hg HBx.out.size
  clear hwx
  -- the second half, from the world wx on
  rcases hbig : decide (16384 < L.length) with _ | _
  · have hn1 : L.length ≤ 16384 := by simpa using hbig
    have HLay := Lib.hid (lexLay_in a cap L wx (HLx.out) hn1 HOK.out HEx.out.keys HEx.out.marks HPx.out hgx)
    clear hbig
    go_wp2_with (go_at_call 8; refine HLay.out.mono ?_)
    rintro e w7 ⟨rfl, hb7⟩
    have HB7 := Lib.hid (HBx.out.trans (hb7.mono HBx.out.size))
    have HL7 := Lib.hid (HLx.out.below hb7 (Nat.le_refl _) |>.more hb7.size)
    have hz7 := hb7.size
    clear hb7
    unfold laidV
    rcases hgood : allGood L with _ | _
    · simp only [Bool.false_eq_true, if_false]
      clear hgood
      go_wp2
      go_ret
      exact ⟨rfl, HB7.out⟩
    · simp only [if_true]
      have HGd := Lib.hid (allGood_mem hgood)
      obtain ⟨x, ex⟩ : ∃ x : ByteArray, x = ⟨(Lib.join (L.map wordL) [32]).toArray⟩ := ⟨_, rfl⟩
      rw [← ex]
      have EX := Lib.hid ex
      clear hgood ex
      by_cases hx : x.size ≤ 65536
      · have hxi : (x.size : Int) ≤ 65536 := by omega
        go_wp2_with fail
        go_loopg [13] L.length (fun g v wr => ∃ k : Nat, 1 ≤ k ∧ k ≤ L.length + 1 ∧ k + g = L.length + 1 ∧ v = .int .i64 k ∧ Hid (∀ j (h : j + 1 < L.length), j + 1 < k → ¬ (isStr L[j] = true ∧ isStr L[j + 1] = true)) ∧ wr = w7)
        case atStart => exact ⟨1, Nat.le_refl _, by omega, by omega, rfl, fun j _ h => by omega, rfl⟩
        case round =>
          obtain ⟨k, hk1, hk2, hkg, rfl, hno, rfl⟩ := hrel
          by_cases hlt : k < L.length
          · obtain ⟨b, off, rfl, hb, hr⟩ := HL7.out (by rintro rfl; simp at hlt)
            have c1 := (hr k L[k] (List.getElem?_eq_getElem hlt)).1
            have hk1l : k - 1 < L.length := by omega
            have c0 := (hr (k - 1) L[k - 1] (List.getElem?_eq_getElem hk1l)).1
            have e1 : ((k : Int) - 1).toNat = k - 1 := by omega
            have p1 : (0 : Int) ≤ (k : Int) - 1 := by omega
            have l1 : (k : Int) - 1 < L.length := by omega
            have hnext : ¬ (L[k].kind = 4 ∧ L[k - 1].kind = 4) → Hid (∀ j (h : j + 1 < L.length), j + 1 < k + 1 → ¬ (isStr L[j] = true ∧ isStr L[j + 1] = true)) := fun hn j h hj => by
              rcases Nat.lt_or_ge (j + 1) k with h' | h'
              · exact hno.out j h h'
              · obtain rfl : k = j + 1 := by omega
                intro ⟨e1, e2⟩
                exact hn ⟨by simpa [isStr] using e2, by simpa [isStr] using e1⟩
            have HNx := Lib.hid hnext
            clear hr hnext hno
            by_cases h4 : L[k].kind = 4
            · have t4 : (L[k].kind == 4) = true := by simpa using h4
              by_cases h5 : L[k - 1].kind = 4
              · have t5 : (L[k - 1].kind == 4) = true := by simpa using h5
                clear h4 h5 HNx
                go_wp2_with fail
                go_ret
                exact ⟨rfl, HB7.out⟩
              · have t5 : (L[k - 1].kind == 4) = false := by simpa using h5
                have hn' := HNx.out (fun e => h5 e.2)
                clear h4 h5 HNx
                go_wp2_with fail
                go_roundg (L.length - k)
                case measure => omega
                case rel => exact ⟨k + 1, by omega, by omega, by omega, by go_num, hn', rfl⟩
            · have t4 : (L[k].kind == 4) = false := by simpa using h4
              have hn' := HNx.out (fun e => h4 e.1)
              clear h4 HNx
              go_wp2_with fail
              go_roundg (L.length - k)
              case measure => omega
              case rel => exact ⟨k + 1, by omega, by omega, by omega, by go_num, hn', rfl⟩
          · have hadj : NoAdj L := noAdj_of (fun j h => hno.out j h (by omega))
            obtain ⟨K, hK1, hK2⟩ := back_plain HGd.out hadj hn1
            have HK := Lib.hid (tokE_of (s := x) hx (by rw [EX.out]; exact hK1))
            have HU := Lib.hid hK2
            have hKl : K.length = L.length := by have := congrArg List.length hK2; simpa using this
            have HE7 := Lib.hid (HE.out.below HB7.out)
            clear hadj hK1 hK2 hno
            go_wp2_with (go_at_call 12; refine (tokens_good _ HE7.out HK.out).mono ?_)
            rintro e w8 ⟨v8, rfl, h8, hb8⟩
            obtain ⟨a8, cap8, rfl, _, hf8⟩ := h8
            rw [hKl]
            have HB8 := Lib.hid (HB7.out.trans (hb8.mono HB7.out.size))
            have hk8 : IsToks w8.heap.size w8 a8 K := fun hne => by
              obtain ⟨g8, e8, hg8, hr8, _⟩ := hf8 hne
              exact ⟨g8, 0, e8, hg8, hr8⟩
            have hl8 := HL7.out.below hb8 (Nat.le_refl _) |>.more hb8.size
            clear hb8 hf8
            go_upto_region 21 with fail
            generalize hw9 : w8.alloc _ = w9
            have hb9 : Below w8.heap.size w8 w9 := by rw [← hw9]; exact (Below.refl _ _).alloc (Nat.le_refl _) _
            have hf9 : w9.heap[w8.heap.size]? = some (.cells #[.int .i64 0, .int .i64 0] 30 (0, 0)) := by rw [← hw9]; exact heap_alloc_new w8 _
            obtain ⟨⟨d0, d1⟩, _⟩ := two_block hf9
            have HS := Lib.hid (same_is2 a8 a L.length cap8 cap K L w9 ((hk8.below hb9 (Nat.le_refl _)).more hb9.size) ((hl8.below hb9 (Nat.le_refl _)).more hb9.size) hn hKl rfl HU.out)
            have HB9 := Lib.hid (HB8.out.trans (hb9.mono HB8.out.size))
            clear hk8 hl8 hw9 hb9 hf9 hKl
            go_wp2_with (go_at_call 10; refine HS.out.mono ?_)
            rintro e w10 ⟨rfl, hb10⟩
            have HB10 := Lib.hid (HB9.out.trans (hb10.mono HB9.out.size))
            clear hb10
            go_wp2
            go_ret
            exact ⟨rfl, HB10.out⟩
      · have hxi : (65536 : Int) < x.size := by omega
        go_wp2
        go_ret
        exact ⟨rfl, HB7.out⟩
  · have hn1 : 16384 < L.length := by simpa using hbig
    clear hbig
    go_wp2_with (go_at_call 8; refine (lexLay_long a L.length cap wx hn1).mono ?_; rintro e w7 ⟨rfl, rfl⟩)
    go_ret
    exact ⟨rfl, HBx.out⟩

set_option maxHeartbeats 8000000 in
set_option maxRecDepth 100000 in
theorem back_good (a : Option Addr) (cap : Nat) (L : List Tok) (s : ByteArray) (M : List Tok) (w : World) (hL : IsToks w.heap.size w a L) (hok : ∀ t ∈ L, TokOk t) (hn : L.length ≤ 1048576) (hE : Env w) (hP : PowAt w) (hg : 3 < w.heap.size) (h : tokE s = .good M) :
    Calls Tryd.prog 6 #[.slice a L.length cap, .string s] w fun e w' => e = .returned (.bool true) ∧ Below w.heap.size w w' := by
  have HL := Lib.hid hL
  have HOK := Lib.hid hok
  have HE := Lib.hid hE
  have HP := Lib.hid hP
  have H := Lib.hid h
  obtain ⟨hs, htl, _, _⟩ := tokE_good h
  obtain ⟨hgm, hnm⟩ := tokL_okay _ _ _ _ htl (fun t ht => by cases ht) trivial
  have hml := tokL_len _ _ _ _ htl (by simp)
  have HMg := Lib.hid hgm
  have HMn := Lib.hid hnm
  clear hL hok hE hP h htl hgm hnm hs
  go_enter Tryd.func6, Tryd.ntmps6
  go_wp2_with (go_at_call 11; refine (works_ok _ HE.out).mono ?_; rintro e w1 ⟨rfl, hb1⟩; have HB1 := Lib.hid hb1; clear hb1)
  have HE1 := Lib.hid (HE.out.below HB1.out)
  have hz1 := HB1.out.size
  refine (tokens_good _ HE1.out H.out).mono ?_
  rintro e w2 ⟨v2, rfl, h2, hb2⟩
  obtain ⟨a2, cap2, rfl, _, hf2⟩ := h2
  have HB2 := Lib.hid (HB1.out.trans (hb2.mono hz1))
  have hk2 : IsToks w2.heap.size w2 a2 M := fun hne => by
    obtain ⟨g2, e2, hg2, hr2, _⟩ := hf2 hne
    exact ⟨g2, 0, e2, hg2, hr2⟩
  clear hb2 hf2
  go_upto_region 4 with fail
  generalize hw3 : w2.alloc _ = w3
  have hb3 : Below w2.heap.size w2 w3 := by rw [← hw3]; exact (Below.refl _ _).alloc (Nat.le_refl _) _
  have hf3 : w3.heap[w2.heap.size]? = some (.cells #[.int .i64 0, .int .i64 0] 30 (0, 0)) := by rw [← hw3]; exact heap_alloc_new w2 _
  obtain ⟨⟨d0, d1⟩, _⟩ := two_block hf3
  have HK3 := Lib.hid ((hk2.below hb3 (Nat.le_refl _)).more hb3.size)
  have HB3 := Lib.hid (HB2.out.trans (hb3.mono HB2.out.size))
  have HE3 := Lib.hid (HE.out.below HB3.out)
  have HP3 := Lib.hid (HP.out.below HB3.out hg)
  have hg3 := Nat.lt_of_lt_of_le hg HB3.out.size
  clear hk2 hw3 hb3 hf3
  have HLay3 := Lib.hid (lexLay_in a2 cap2 M w3 HK3.out hml (fun t ht => good_tok (HMg.out t ht)) HE3.out.keys HE3.out.marks HP3.out hg3)
  go_wp2_with (go_at_call 8; refine HLay3.out.mono ?_)
  rintro e w4 ⟨rfl, hb4⟩
  have HB4 := Lib.hid (HB3.out.trans (hb4.mono HB3.out.size))
  have HK4 := Lib.hid (HK3.out.below hb4 (Nat.le_refl _) |>.more hb4.size)
  clear hb4 d0 d1
  unfold laidV
  rw [if_pos (lay_good HMg.out)]
  obtain ⟨x4, ex4⟩ : ∃ x : ByteArray, x = ⟨(Lib.join (M.map wordL) [32]).toArray⟩ := ⟨_, rfl⟩
  rw [← ex4]
  obtain ⟨K4, hK1, hK2⟩ := back_plain HMg.out HMn.out hml
  have HK := Lib.hid (fun hx : x4.size ≤ 65536 => tokE_of (s := x4) hx (by rw [ex4]; exact hK1))
  have HU := Lib.hid hK2
  have hKl : K4.length = M.length := by have := congrArg List.length hK2; simpa using this
  have HE4 := Lib.hid (HE.out.below HB4.out)
  clear ex4 hK1 hK2
  rcases hx4 : decide (x4.size ≤ 65536) with _ | _
  · have hx4i : (65536 : Int) < x4.size := by have : ¬ x4.size ≤ 65536 := by simpa using hx4
                                              omega
    clear hx4
    go_upto_region 12 with fail
    have HBx := HB4
    have HLx := Lib.hid (HL.out.below HBx.out (Nat.le_refl _) |>.more HBx.out.size)
    have HEx := HE4
    have HPx := Lib.hid (HP.out.below HBx.out hg)
    have hgx := Nat.lt_of_lt_of_le hg HBx.out.size
    -- the second half, from the world w4 on
    rcases hbig : decide (16384 < L.length) with _ | _
    · have hn1 : L.length ≤ 16384 := by simpa using hbig
      have HLay := Lib.hid (lexLay_in a cap L w4 (HLx.out) hn1 HOK.out HEx.out.keys HEx.out.marks HPx.out hgx)
      clear hbig
      go_wp2_with (go_at_call 8; refine HLay.out.mono ?_)
      rintro e w7 ⟨rfl, hb7⟩
      have HB7 := Lib.hid (HBx.out.trans (hb7.mono HBx.out.size))
      have HL7 := Lib.hid (HLx.out.below hb7 (Nat.le_refl _) |>.more hb7.size)
      have hz7 := hb7.size
      clear hb7
      unfold laidV
      rcases hgood : allGood L with _ | _
      · simp only [Bool.false_eq_true, if_false]
        clear hgood
        go_wp2
        go_ret
        exact ⟨rfl, HB7.out⟩
      · simp only [if_true]
        have HGd := Lib.hid (allGood_mem hgood)
        obtain ⟨x, ex⟩ : ∃ x : ByteArray, x = ⟨(Lib.join (L.map wordL) [32]).toArray⟩ := ⟨_, rfl⟩
        rw [← ex]
        have EX := Lib.hid ex
        clear hgood ex
        by_cases hx : x.size ≤ 65536
        · have hxi : (x.size : Int) ≤ 65536 := by omega
          go_wp2_with fail
          go_loopg [13] L.length (fun g v wr => ∃ k : Nat, 1 ≤ k ∧ k ≤ L.length + 1 ∧ k + g = L.length + 1 ∧ v = .int .i64 k ∧ Hid (∀ j (h : j + 1 < L.length), j + 1 < k → ¬ (isStr L[j] = true ∧ isStr L[j + 1] = true)) ∧ wr = w7)
          case atStart => exact ⟨1, Nat.le_refl _, by omega, by omega, rfl, fun j _ h => by omega, rfl⟩
          case round =>
            obtain ⟨k, hk1, hk2, hkg, rfl, hno, rfl⟩ := hrel
            by_cases hlt : k < L.length
            · obtain ⟨b, off, rfl, hb, hr⟩ := HL7.out (by rintro rfl; simp at hlt)
              have c1 := (hr k L[k] (List.getElem?_eq_getElem hlt)).1
              have hk1l : k - 1 < L.length := by omega
              have c0 := (hr (k - 1) L[k - 1] (List.getElem?_eq_getElem hk1l)).1
              have e1 : ((k : Int) - 1).toNat = k - 1 := by omega
              have p1 : (0 : Int) ≤ (k : Int) - 1 := by omega
              have l1 : (k : Int) - 1 < L.length := by omega
              have hnext : ¬ (L[k].kind = 4 ∧ L[k - 1].kind = 4) → Hid (∀ j (h : j + 1 < L.length), j + 1 < k + 1 → ¬ (isStr L[j] = true ∧ isStr L[j + 1] = true)) := fun hn j h hj => by
                rcases Nat.lt_or_ge (j + 1) k with h' | h'
                · exact hno.out j h h'
                · obtain rfl : k = j + 1 := by omega
                  intro ⟨e1, e2⟩
                  exact hn ⟨by simpa [isStr] using e2, by simpa [isStr] using e1⟩
              have HNx := Lib.hid hnext
              clear hr hnext hno
              by_cases h4 : L[k].kind = 4
              · have t4 : (L[k].kind == 4) = true := by simpa using h4
                by_cases h5 : L[k - 1].kind = 4
                · have t5 : (L[k - 1].kind == 4) = true := by simpa using h5
                  clear h4 h5 HNx
                  go_wp2_with fail
                  go_ret
                  exact ⟨rfl, HB7.out⟩
                · have t5 : (L[k - 1].kind == 4) = false := by simpa using h5
                  have hn' := HNx.out (fun e => h5 e.2)
                  clear h4 h5 HNx
                  go_wp2_with fail
                  go_roundg (L.length - k)
                  case measure => omega
                  case rel => exact ⟨k + 1, by omega, by omega, by omega, by go_num, hn', rfl⟩
              · have t4 : (L[k].kind == 4) = false := by simpa using h4
                have hn' := HNx.out (fun e => h4 e.1)
                clear h4 HNx
                go_wp2_with fail
                go_roundg (L.length - k)
                case measure => omega
                case rel => exact ⟨k + 1, by omega, by omega, by omega, by go_num, hn', rfl⟩
            · have hadj : NoAdj L := noAdj_of (fun j h => hno.out j h (by omega))
              obtain ⟨K, hK1, hK2⟩ := back_plain HGd.out hadj hn1
              have HK := Lib.hid (tokE_of (s := x) hx (by rw [EX.out]; exact hK1))
              have HU := Lib.hid hK2
              have hKl : K.length = L.length := by have := congrArg List.length hK2; simpa using this
              have HE7 := Lib.hid (HE.out.below HB7.out)
              clear hadj hK1 hK2 hno
              go_wp2_with (go_at_call 12; refine (tokens_good _ HE7.out HK.out).mono ?_)
              rintro e w8 ⟨v8, rfl, h8, hb8⟩
              obtain ⟨a8, cap8, rfl, _, hf8⟩ := h8
              rw [hKl]
              have HB8 := Lib.hid (HB7.out.trans (hb8.mono HB7.out.size))
              have hk8 : IsToks w8.heap.size w8 a8 K := fun hne => by
                obtain ⟨g8, e8, hg8, hr8, _⟩ := hf8 hne
                exact ⟨g8, 0, e8, hg8, hr8⟩
              have hl8 := HL7.out.below hb8 (Nat.le_refl _) |>.more hb8.size
              clear hb8 hf8
              go_upto_region 21 with fail
              generalize hw9 : w8.alloc _ = w9
              have hb9 : Below w8.heap.size w8 w9 := by rw [← hw9]; exact (Below.refl _ _).alloc (Nat.le_refl _) _
              have hf9 : w9.heap[w8.heap.size]? = some (.cells #[.int .i64 0, .int .i64 0] 30 (0, 0)) := by rw [← hw9]; exact heap_alloc_new w8 _
              obtain ⟨⟨d0, d1⟩, _⟩ := two_block hf9
              have HS := Lib.hid (same_is2 a8 a L.length cap8 cap K L w9 ((hk8.below hb9 (Nat.le_refl _)).more hb9.size) ((hl8.below hb9 (Nat.le_refl _)).more hb9.size) hn hKl rfl HU.out)
              have HB9 := Lib.hid (HB8.out.trans (hb9.mono HB8.out.size))
              clear hk8 hl8 hw9 hb9 hf9 hKl
              go_wp2_with (go_at_call 10; refine HS.out.mono ?_)
              rintro e w10 ⟨rfl, hb10⟩
              have HB10 := Lib.hid (HB9.out.trans (hb10.mono HB9.out.size))
              clear hb10
              go_wp2
              go_ret
              exact ⟨rfl, HB10.out⟩
        · have hxi : (65536 : Int) < x.size := by omega
          go_wp2
          go_ret
          exact ⟨rfl, HB7.out⟩
    · have hn1 : 16384 < L.length := by simpa using hbig
      clear hbig
      go_wp2_with (go_at_call 8; refine (lexLay_long a L.length cap w4 hn1).mono ?_; rintro e w7 ⟨rfl, rfl⟩)
      go_ret
      exact ⟨rfl, HBx.out⟩
  · have hx4' : x4.size ≤ 65536 := by simpa using hx4
    have hx4i : (x4.size : Int) ≤ 65536 := by omega
    have HK' := Lib.hid (HK.out hx4')
    clear hx4 hx4'
    go_wp2_with (go_at_call 12; refine (tokens_good _ HE4.out HK'.out).mono ?_)
    rintro e w5 ⟨v5, rfl, h5, hb5⟩
    obtain ⟨a5, cap5, rfl, _, hf5⟩ := h5
    rw [hKl]
    have HB5 := Lib.hid (HB4.out.trans (hb5.mono HB4.out.size))
    have hk5 : IsToks w5.heap.size w5 a5 K4 := fun hne => by
      obtain ⟨g5, e5, hg5, hr5, _⟩ := hf5 hne
      exact ⟨g5, 0, e5, hg5, hr5⟩
    have hm5 := HK4.out.below hb5 (Nat.le_refl _) |>.more hb5.size
    clear hb5 hf5
    go_upto_region 10 with fail
    generalize hw6 : w5.alloc _ = w6
    have hb6 : Below w5.heap.size w5 w6 := by rw [← hw6]; exact (Below.refl _ _).alloc (Nat.le_refl _) _
    have hf6 : w6.heap[w5.heap.size]? = some (.cells #[.int .i64 0, .int .i64 0] 30 (0, 0)) := by rw [← hw6]; exact heap_alloc_new w5 _
    obtain ⟨⟨d0, d1⟩, _⟩ := two_block hf6
    have HS6 := Lib.hid (same_is2 a5 a2 M.length cap5 cap2 K4 M w6 ((hk5.below hb6 (Nat.le_refl _)).more hb6.size) ((hm5.below hb6 (Nat.le_refl _)).more hb6.size) (by omega) hKl rfl HU.out)
    have HB6 := Lib.hid (HB5.out.trans (hb6.mono HB5.out.size))
    clear hk5 hm5 hw6 hb6 hf6 hKl
    go_wp2_with (go_at_call 10; refine HS6.out.mono ?_)
    rintro e wx ⟨rfl, hb7⟩
    have HBx := Lib.hid (HB6.out.trans (hb7.mono HB6.out.size))
    clear hb7 d0 d1
    go_upto_region 12 with fail
    have HLx := Lib.hid (HL.out.below HBx.out (Nat.le_refl _) |>.more HBx.out.size)
    have HEx := Lib.hid (HE.out.below HBx.out)
    have HPx := Lib.hid (HP.out.below HBx.out hg)
    have hgx := Nat.lt_of_lt_of_le hg HBx.out.size
    -- the second half, from the world wx on
    rcases hbig : decide (16384 < L.length) with _ | _
    · have hn1 : L.length ≤ 16384 := by simpa using hbig
      have HLay := Lib.hid (lexLay_in a cap L wx (HLx.out) hn1 HOK.out HEx.out.keys HEx.out.marks HPx.out hgx)
      clear hbig
      go_wp2_with (go_at_call 8; refine HLay.out.mono ?_)
      rintro e w7 ⟨rfl, hb7⟩
      have HB7 := Lib.hid (HBx.out.trans (hb7.mono HBx.out.size))
      have HL7 := Lib.hid (HLx.out.below hb7 (Nat.le_refl _) |>.more hb7.size)
      have hz7 := hb7.size
      clear hb7
      unfold laidV
      rcases hgood : allGood L with _ | _
      · simp only [Bool.false_eq_true, if_false]
        clear hgood
        go_wp2
        go_ret
        exact ⟨rfl, HB7.out⟩
      · simp only [if_true]
        have HGd := Lib.hid (allGood_mem hgood)
        obtain ⟨x, ex⟩ : ∃ x : ByteArray, x = ⟨(Lib.join (L.map wordL) [32]).toArray⟩ := ⟨_, rfl⟩
        rw [← ex]
        have EX := Lib.hid ex
        clear hgood ex
        by_cases hx : x.size ≤ 65536
        · have hxi : (x.size : Int) ≤ 65536 := by omega
          go_wp2_with fail
          go_loopg [13] L.length (fun g v wr => ∃ k : Nat, 1 ≤ k ∧ k ≤ L.length + 1 ∧ k + g = L.length + 1 ∧ v = .int .i64 k ∧ Hid (∀ j (h : j + 1 < L.length), j + 1 < k → ¬ (isStr L[j] = true ∧ isStr L[j + 1] = true)) ∧ wr = w7)
          case atStart => exact ⟨1, Nat.le_refl _, by omega, by omega, rfl, fun j _ h => by omega, rfl⟩
          case round =>
            obtain ⟨k, hk1, hk2, hkg, rfl, hno, rfl⟩ := hrel
            by_cases hlt : k < L.length
            · obtain ⟨b, off, rfl, hb, hr⟩ := HL7.out (by rintro rfl; simp at hlt)
              have c1 := (hr k L[k] (List.getElem?_eq_getElem hlt)).1
              have hk1l : k - 1 < L.length := by omega
              have c0 := (hr (k - 1) L[k - 1] (List.getElem?_eq_getElem hk1l)).1
              have e1 : ((k : Int) - 1).toNat = k - 1 := by omega
              have p1 : (0 : Int) ≤ (k : Int) - 1 := by omega
              have l1 : (k : Int) - 1 < L.length := by omega
              have hnext : ¬ (L[k].kind = 4 ∧ L[k - 1].kind = 4) → Hid (∀ j (h : j + 1 < L.length), j + 1 < k + 1 → ¬ (isStr L[j] = true ∧ isStr L[j + 1] = true)) := fun hn j h hj => by
                rcases Nat.lt_or_ge (j + 1) k with h' | h'
                · exact hno.out j h h'
                · obtain rfl : k = j + 1 := by omega
                  intro ⟨e1, e2⟩
                  exact hn ⟨by simpa [isStr] using e2, by simpa [isStr] using e1⟩
              have HNx := Lib.hid hnext
              clear hr hnext hno
              by_cases h4 : L[k].kind = 4
              · have t4 : (L[k].kind == 4) = true := by simpa using h4
                by_cases h5 : L[k - 1].kind = 4
                · have t5 : (L[k - 1].kind == 4) = true := by simpa using h5
                  clear h4 h5 HNx
                  go_wp2_with fail
                  go_ret
                  exact ⟨rfl, HB7.out⟩
                · have t5 : (L[k - 1].kind == 4) = false := by simpa using h5
                  have hn' := HNx.out (fun e => h5 e.2)
                  clear h4 h5 HNx
                  go_wp2_with fail
                  go_roundg (L.length - k)
                  case measure => omega
                  case rel => exact ⟨k + 1, by omega, by omega, by omega, by go_num, hn', rfl⟩
              · have t4 : (L[k].kind == 4) = false := by simpa using h4
                have hn' := HNx.out (fun e => h4 e.1)
                clear h4 HNx
                go_wp2_with fail
                go_roundg (L.length - k)
                case measure => omega
                case rel => exact ⟨k + 1, by omega, by omega, by omega, by go_num, hn', rfl⟩
            · have hadj : NoAdj L := noAdj_of (fun j h => hno.out j h (by omega))
              obtain ⟨K, hK1, hK2⟩ := back_plain HGd.out hadj hn1
              have HK := Lib.hid (tokE_of (s := x) hx (by rw [EX.out]; exact hK1))
              have HU := Lib.hid hK2
              have hKl : K.length = L.length := by have := congrArg List.length hK2; simpa using this
              have HE7 := Lib.hid (HE.out.below HB7.out)
              clear hadj hK1 hK2 hno
              go_wp2_with (go_at_call 12; refine (tokens_good _ HE7.out HK.out).mono ?_)
              rintro e w8 ⟨v8, rfl, h8, hb8⟩
              obtain ⟨a8, cap8, rfl, _, hf8⟩ := h8
              rw [hKl]
              have HB8 := Lib.hid (HB7.out.trans (hb8.mono HB7.out.size))
              have hk8 : IsToks w8.heap.size w8 a8 K := fun hne => by
                obtain ⟨g8, e8, hg8, hr8, _⟩ := hf8 hne
                exact ⟨g8, 0, e8, hg8, hr8⟩
              have hl8 := HL7.out.below hb8 (Nat.le_refl _) |>.more hb8.size
              clear hb8 hf8
              go_upto_region 21 with fail
              generalize hw9 : w8.alloc _ = w9
              have hb9 : Below w8.heap.size w8 w9 := by rw [← hw9]; exact (Below.refl _ _).alloc (Nat.le_refl _) _
              have hf9 : w9.heap[w8.heap.size]? = some (.cells #[.int .i64 0, .int .i64 0] 30 (0, 0)) := by rw [← hw9]; exact heap_alloc_new w8 _
              obtain ⟨⟨d0, d1⟩, _⟩ := two_block hf9
              have HS := Lib.hid (same_is2 a8 a L.length cap8 cap K L w9 ((hk8.below hb9 (Nat.le_refl _)).more hb9.size) ((hl8.below hb9 (Nat.le_refl _)).more hb9.size) hn hKl rfl HU.out)
              have HB9 := Lib.hid (HB8.out.trans (hb9.mono HB8.out.size))
              clear hk8 hl8 hw9 hb9 hf9 hKl
              go_wp2_with (go_at_call 10; refine HS.out.mono ?_)
              rintro e w10 ⟨rfl, hb10⟩
              have HB10 := Lib.hid (HB9.out.trans (hb10.mono HB9.out.size))
              clear hb10
              go_wp2
              go_ret
              exact ⟨rfl, HB10.out⟩
        · have hxi : (65536 : Int) < x.size := by omega
          go_wp2
          go_ret
          exact ⟨rfl, HB7.out⟩
    · have hn1 : 16384 < L.length := by simpa using hbig
      clear hbig
      go_wp2_with (go_at_call 8; refine (lexLay_long a L.length cap wx hn1).mono ?_; rintro e w7 ⟨rfl, rfl⟩)
      go_ret
      exact ⟨rfl, HBx.out⟩

theorem back_ok (a : Option Addr) (cap : Nat) (L : List Tok) (s : ByteArray) (w : World) (hL : IsToks w.heap.size w a L) (hok : ∀ t ∈ L, TokOk t) (hn : L.length ≤ 1048576) (hE : Env w) (hP : PowAt w) (hg : 3 < w.heap.size) :
    Calls Tryd.prog 6 #[.slice a L.length cap, .string s] w fun e w' => e = .returned (.bool true) ∧ Below w.heap.size w w' := by
  rcases h : tokE s with M | ⟨p, y⟩
  · exact back_good a cap L s M w hL hok hn hE hP hg h
  · exact back_bad a cap L s p y w hL hok hn hE hP hg h

end Go.Proofs.YtncojfcdkigmiaaDoor
