/- The walk of LexBlank. -/
import Derived.Test.YtncojfcdkigmiaaDoorLexBack
namespace Go.Proofs.YtncojfcdkigmiaaDoor
open Go.RowKit

theorem add_named (a b : ByteArray) (h : a.size + b.size ≤ 9223372036854775807) : ∃ y : ByteArray, y.data.toList = a.data.toList ++ b.data.toList ∧ y.size = a.size + b.size ∧ ∀ w, (Op.stringOp .add a b).run Tryd.prog w = .ok (.string y) w :=
  ⟨a ++ b, by simp, ByteArray.size_append, fun w => run_string_add_sum w a b h⟩
theorem lay_one {t : Tok} (h : goodB t = true) : laidV [t] = .tuple #[.string ⟨(wordL t).toArray⟩, .int .i64 0] := by
  unfold laidV
  rw [if_pos (lay_good (by simpa using h))]
  simp [Lib.join]
theorem noted_snoc (more : List UInt8) (L : List Tok) (k : Nat) (h : k < L.length) :
    noted more (L.take (k + 1)) = noted more (L.take k) ++ (wordL L[k] ++ [32] ++ more ++ [47, 42, 32] ++ [120] ++ [32, 42, 47, 32]) := by
  rw [List.take_add_one, List.getElem?_eq_getElem h]
  simp only [noted, List.flatMap_append, List.flatMap_cons, List.flatMap_nil, Option.toList_some, List.append_assoc, List.cons_append, List.nil_append, List.append_nil]

set_option maxHeartbeats 4000000 in
set_option maxRecDepth 100000 in
theorem lawBlank_ok (r : Bool) (s : ByteArray) (w : World) (hs : s.size ≤ 140737488351232) (er : r = s.data.toList.all spB) :
    Calls Tryd.prog 19 #[.string s] w fun e w' => e = .returned (.bool r) ∧ w' = w := by
  have ER := Lib.hid er
  clear er
  go_enter Tryd.func19, Tryd.ntmps19
  go_wp2
  go_loopg [3] s.size (fun g v wr => ∃ k : Nat, k ≤ s.size ∧ k + g = s.size ∧ v = .int .i64 k ∧ Hid (r = (s.data.toList.drop k).all spB) ∧ wr = w)
  case atStart => exact ⟨0, Nat.zero_le _, by omega, rfl, by simpa using ER, rfl⟩
  case round =>
    obtain ⟨k, hk, hkg, rfl, hr, rfl⟩ := hrel
    by_cases hlt : k < s.size
    · have hstep : (s.data.toList.drop k).all spB = (spB s[k] && (s.data.toList.drop (k + 1)).all spB) := by
        rw [List.drop_eq_getElem_cons (by simpa using hlt)]
        rfl
      rcases hS : spB s[k] with _ | _
      · have t1 : ((s[k].toNat : Int) != 32) = true := by have := (spB_no hS).2; simp; omega
        have hlow : (s[k].toNat : Int) < 9 ∨ ((9 : Int) ≤ s[k].toNat ∧ (13 : Int) < s[k].toNat) := by have := (spB_no hS).1; omega
        have hfin := Lib.hid (show r = false by rw [hr.out, hstep, hS]; rfl)
        clear hS hstep hr
        rcases hlow with t2 | ⟨t2, t3⟩
        all_goals
          go_wp2_with fail
          go_ret
          exact ⟨by rw [hfin.out]; first | done | rfl, rfl⟩
      · have hcase : s[k].toNat = 32 ∨ (s[k].toNat ≠ 32 ∧ 9 ≤ s[k].toNat ∧ s[k].toNat ≤ 13) := by
          unfold spB at hS; rw [decide_eq_true_eq] at hS; omega
        have hnext := Lib.hid (show r = (s.data.toList.drop (k + 1)).all spB by rw [hr.out, hstep, hS]; rfl)
        clear hS hstep hr
        rcases hcase with h32 | ⟨h32, h9, h13⟩
        · have t1 : ((s[k].toNat : Int) != 32) = false := by simp; omega
          clear h32
          go_wp2_with fail
          go_roundg (s.size - (k + 1))
          case measure => omega
          case rel => exact ⟨k + 1, by omega, by omega, by go_num, hnext, rfl⟩
        · have t1 : ((s[k].toNat : Int) != 32) = true := by simp; omega
          have t2 : (9 : Int) ≤ s[k].toNat := by omega
          have t3 : (s[k].toNat : Int) ≤ 13 := by omega
          clear h32 h9 h13
          go_wp2_with fail
          go_roundg (s.size - (k + 1))
          case measure => omega
          case rel => exact ⟨k + 1, by omega, by omega, by go_num, hnext, rfl⟩
    · obtain rfl : k = s.size := by omega
      have hfin := Lib.hid (show r = true by rw [hr.out, List.drop_eq_nil_of_le (by rw [Array.length_toList]; exact Nat.le_refl _)]; rfl)
      clear hr
      go_wp2_with fail
      go_ret
      exact ⟨by rw [hfin.out]; first | done | rfl, rfl⟩

set_option maxHeartbeats 4000000 in
set_option maxRecDepth 100000 in
theorem lexBlank_bad (s more : ByteArray) (p : Nat) (x : Int) (w : World) (hE : Env w) (h : tokE s = .bad p x) :
    Calls Tryd.prog 7 #[.string s, .string more] w fun e w' => e = .returned (.bool true) ∧ Below w.heap.size w w' := by
  have HE := Lib.hid hE
  have H := Lib.hid h
  have h2 := (tokE_bad h).2
  have t1 : (x != 0) = true := by simp; omega
  clear hE h h2
  go_enter Tryd.func7, Tryd.ntmps7
  go_wp2_with (go_at_call 11; refine (works_ok _ HE.out).mono ?_; rintro e w1 ⟨rfl, hb1⟩; have HB1 := Lib.hid hb1; clear hb1)
  have HE1 := Lib.hid (HE.out.below HB1.out)
  have hz1 := HB1.out.size
  refine (tokens_bad _ HE1.out H.out).mono ?_
  rintro e w2 ⟨rfl, hb2⟩
  have HB2 := Lib.hid (HB1.out.trans (hb2.mono hz1))
  clear hb2
  go_wp2
  go_ret
  exact ⟨rfl, HB2.out.alloc HB2.out.size _⟩

theorem tok_one {w : World} {g : Nat} {L : List Tok} (h : TokRow w g 0 L) {k : Nat} (hk : k < L.length) : TokRow w g (k * 4) [L[k]] := fun j t ht => by
  refine h.drop k j t ?_
  cases j with
  | zero => simp at ht; subst ht; simp [hk]
  | succ j => simp at ht

set_option maxHeartbeats 8000000 in
set_option maxRecDepth 100000 in
theorem lexBlank_good (s more : ByteArray) (L : List Tok) (w : World) (hm : more.size ≤ 140737488351232) (hE : Env w) (hP : PowAt w) (hg : 3 < w.heap.size) (h : tokE s = .good L) :
    Calls Tryd.prog 7 #[.string s, .string more] w fun e w' => e = .returned (.bool true) ∧ Below w.heap.size w w' := by
  have HE := Lib.hid hE
  have HP := Lib.hid hP
  have H := Lib.hid h
  obtain ⟨_, htl, _, _⟩ := tokE_good h
  obtain ⟨hgm, hnm⟩ := tokL_okay _ _ _ _ htl (fun t ht => by cases ht) trivial
  have hml := tokL_len _ _ _ _ htl (by simp)
  have HMg := Lib.hid hgm
  have HMn := Lib.hid hnm
  have HM := Lib.hid hm
  clear hE hP h htl hgm hnm
  obtain ⟨r, hr⟩ : ∃ r, r = more.data.toList.all spB := ⟨_, rfl⟩
  have HBk := Lib.hid (fun w => lawBlank_ok r more w hm hr)
  have HAll := Lib.hid hr
  clear hm hr
  go_enter Tryd.func7, Tryd.ntmps7
  go_wp2_with (go_at_call 11; refine (works_ok _ HE.out).mono ?_; rintro e w1 ⟨rfl, hb1⟩; have HB1 := Lib.hid hb1; clear hb1)
  have HE1 := Lib.hid (HE.out.below HB1.out)
  have hz1 := HB1.out.size
  refine (tokens_good _ HE1.out H.out).mono ?_
  rintro e w2 ⟨v2, rfl, h2, hb2⟩
  have HB2 := Lib.hid (HB1.out.trans (hb2.mono hz1))
  have hz2 := HB2.out.size
  obtain ⟨a, cap, rfl, hcap, hf⟩ := h2
  clear hb2
  rcases r with _ | _
  · go_wp2_with (go_at_call 19; refine (HBk.out _).mono ?_; rintro e w3' ⟨rfl, rfl⟩)
    go_ret
    exact ⟨rfl, HB2.out.alloc HB2.out.size _⟩
  go_wp2_with (go_at_call 19; refine (HBk.out _).mono ?_; rintro e w3' ⟨rfl, rfl⟩)
  generalize hw3 : w2.alloc _ = w3
  have hb3 : Below w2.heap.size w2 w3 := by rw [← hw3]; exact (Below.refl _ _).alloc (Nat.le_refl _) _
  have HB3 := Lib.hid (HB2.out.trans (hb3.mono hz2))
  have hf6 : w3.heap[w2.heap.size]? = some (.cells #[.int .i64 0, .int .i64 0] 30 (0, 0)) := by rw [← hw3]; exact heap_alloc_new w2 _
  have hz3 : w2.heap.size < w3.heap.size := lt_of_heap hf6
  have hrow : L ≠ [] → ∃ g, a = some ⟨g, 0, none⟩ ∧ g < w2.heap.size ∧ TokRow w3 g 0 L := fun hne => by
    obtain ⟨g, e, hg, hr, _⟩ := hf hne
    exact ⟨g, e, hg, hr.below hb3 hg⟩
  have HRow := Lib.hid hrow
  have HF6 := Lib.hid hf6
  have HG0 := Lib.hid hg
  clear hf hw3 hb3 hf6 hrow hg HBk
  go_loopg [7, 8] L.length (fun g tv v wr => ∃ (k : Nat) (t : ByteArray), k ≤ L.length ∧ k + g = L.length ∧ tv = .string t ∧ v = .int .i64 k ∧ Hid (t.data.toList = more.data.toList ++ noted more.data.toList (L.take k)) ∧ Hid (t.size ≤ (k + 1) * 140737500000000) ∧ Hid (Below w3.heap.size w3 wr))
  case atStart =>
    refine ⟨0, more, Nat.zero_le _, by omega, rfl, rfl, Lib.hid (by simp [noted]), Lib.hid ?_, Lib.hid (Below.refl _ _)⟩
    have := HM.out
    omega
  case round =>
    obtain ⟨k, t, hk, hkg, rfl, rfl, ht, hts, hbr⟩ := hrel
    by_cases hlt : k < L.length
    · obtain ⟨g, rfl, hg, hr⟩ := HRow.out (by rintro rfl; simp at hlt)
      have hzr := hbr.out.size
      have hrw := hr.below hbr.out (by omega)
      have HBr := Lib.hid (HB3.out.trans (hbr.out.mono HB3.out.size))
      have hgt : goodB L[k] = true := HMg.out _ (List.getElem_mem hlt)
      have hok := good_tok hgt
      have hone : IsToks wr.heap.size wr (some ⟨g, k * 4, none⟩) [L[k]] := fun _ => ⟨g, k * 4, rfl, by omega, tok_one hrw hlt⟩
      have HLay : Hid (Calls Tryd.prog 8 #[.slice (some ⟨g, k * 4, none⟩) 1 (cap - k)] wr (Laid [L[k]] wr)) := Lib.hid
        (lexLay_in (some ⟨g, k * 4, none⟩) (cap - k) [L[k]] wr hone (by simp) (by simpa using hok) (HE.out.below HBr.out).keys (HE.out.below HBr.out).marks (HP.out.below HBr.out HG0.out) (Nat.lt_of_lt_of_le HG0.out HBr.out.size))
      have hil : (k : Int) + 1 ≤ (cap : Int) := by omega
      have hc0 : 0 < cap := by omega
      have hc1 : ¬ cap = 0 := by omega
      have hc2 : ¬ cap = k := by omega
      have hwl := wordL_bd L[k] hok
      have HGt := Lib.hid hgt
      obtain ⟨u, eu⟩ : ∃ u : ByteArray, u = ⟨(wordL L[k]).toArray⟩ := ⟨_, rfl⟩
      have du : u.data.toList = wordL L[k] := by rw [eu]
      have zu : u.size ≤ 8388608 := by rw [eu, size_mk]; exact hwl
      have hmm := HM.out
      have htt := hts.out
      have hc : ∀ l : List UInt8, ByteArray.size ⟨l.toArray⟩ = l.length := size_mk
      obtain ⟨y1, d1, z1, r1⟩ := add_named u ⟨#[32]⟩ (by have := hc [32]; simp at this; omega)
      obtain ⟨y2, d2, z2, r2⟩ := add_named y1 more (by have := hc [32]; simp at this; omega)
      have q1 : ByteArray.size ⟨#[32]⟩ = 1 := rfl
      have q3 : ByteArray.size ⟨#[47, 42, 32]⟩ = 3 := rfl
      have q4 : ByteArray.size ⟨#[120]⟩ = 1 := rfl
      have q5 : ByteArray.size ⟨#[32, 42, 47, 32]⟩ = 4 := rfl
      obtain ⟨y3, d3, z3, r3⟩ := add_named y2 ⟨#[47, 42, 32]⟩ (by omega)
      obtain ⟨y4, d4, z4, r4⟩ := add_named y3 ⟨#[120]⟩ (by omega)
      obtain ⟨y5, d5, z5, r5⟩ := add_named y4 ⟨#[32, 42, 47, 32]⟩ (by omega)
      obtain ⟨y6, d6, z6, r6⟩ := add_named t y5 (by omega)
      have HD := Lib.hid (show y6.data.toList = more.data.toList ++ noted more.data.toList (L.take (k + 1)) by
        rw [d6, ht.out, d5, d4, d3, d2, d1, du, noted_snoc _ _ _ hlt, List.append_assoc])
      have HZ := Lib.hid (show y6.size ≤ (k + 1 + 1) * 140737500000000 by omega)
      have EU := Lib.hid eu
      clear hrw hr hgt hok hone hwl du zu hmm htt hc q1 q3 q4 q5 d1 d2 d3 d4 d5 d6 z1 z2 z3 z4 z5 z6 eu
      go_wp2_with (go_at_call 8; refine HLay.out.mono ?_)
      rintro e w7 ⟨rfl, hb7⟩
      rw [lay_one HGt.out, ← EU.out]
      have HB7 := Lib.hid (hbr.out.trans (hb7.mono hbr.out.size))
      clear hb7
      go_wp2_with fail
      go_roundg (L.length - (k + 1))
      case measure => omega
      case rel => exact ⟨k + 1, y6, by omega, by omega, rfl, by go_num, HD, HZ, HB7⟩
    · obtain rfl : k = L.length := by omega
      have HBr := Lib.hid (HB3.out.trans (hbr.out.mono HB3.out.size))
      by_cases hx : t.size ≤ 65536
      · have hxi : (t.size : Int) ≤ 65536 := by omega
        obtain ⟨K, hK1, hK2⟩ := blank_plain (more := more.data.toList) (fun c hc => List.all_eq_true.1 HAll.out.symm c hc) HMg.out HMn.out hml
        have HK := Lib.hid (tokE_of (s := t) hx (by rw [ht.out, List.take_length]; exact hK1))
        have HU := Lib.hid hK2
        have hKl : K.length = L.length := by have := congrArg List.length hK2; simpa using this
        have HEr := Lib.hid (HE.out.below HBr.out)
        have hzr := hbr.out.size
        have hfr := (hbr.out.block _ hz3).trans HF6.out
        obtain ⟨⟨d0, d1⟩, fdr⟩ := two_block hfr
        have fdr0 := fdr 0
        have fdr1 := fdr 1
        have HFr := Lib.hid hfr
        clear hK1 hK2 fdr hfr
        go_wp2_with (go_at_call 12; refine (tokens_good _ HEr.out HK.out).mono ?_)
        rintro e w4 ⟨v4, rfl, h4, hb4⟩
        obtain ⟨a4, cap4, rfl, _, hf4⟩ := h4
        rw [hKl]
        have hb34 := hbr.out.trans (hb4.mono hbr.out.size)
        have hf4' := (hb34.block _ hz3).trans HF6.out
        obtain ⟨⟨d40, d41⟩, fd⟩ := two_block hf4'
        have fd40 := fd 0
        have fd41 := fd 1
        have HK4 := Lib.hid hf4
        have HB4 := Lib.hid (HB3.out.trans (hb34.mono HB3.out.size))
        have hz4 := hb34.size
        have HF4 := Lib.hid hf4'
        have HRow4 := Lib.hid (show L ≠ [] → ∃ g, a = some ⟨g, 0, none⟩ ∧ g < w2.heap.size ∧ TokRow w4 g 0 L from fun hne => by
          obtain ⟨g, e, hg, hr⟩ := HRow.out hne
          exact ⟨g, e, hg, hr.below hb34 (by omega)⟩)
        clear d0 d1 fdr0 fdr1 fd hb34 hb4 hf4 hf4'
        go_upto_region 19 with fail
        generalize hw5 : World.setCell _ _ _ = w5
        have hb45 : Below w2.heap.size w4 w5 := by rw [← hw5]; exact ((Below.refl _ _).setCell (by simp) _).setCell (by simp) _
        have hz5 : w5.heap.size = w4.heap.size := by rw [← hw5]; simp [World.setCell]
        have hf5 : w5.heap[w2.heap.size]? = some (.cells #[.int .i64 0, .int .i64 0] 30 (0, 0)) := by rw [← hw5]; exact fault_set HF4.out _ _
        obtain ⟨⟨d50, d51⟩, _⟩ := two_block hf5
        have hset : ∀ b, b ≠ w2.heap.size → w5.heap[b]? = w4.heap[b]? := fun b hb => by
          rw [← hw5, Below.heap_setCell _ _ _ _ hb, Below.heap_setCell _ _ _ _ hb]
        have HK5 := Lib.hid (show IsToks w5.heap.size w5 a4 K from fun hne => by
          obtain ⟨g4, e4, hg4, hr4, hB4⟩ := HK4.out hne
          exact ⟨g4, 0, e4, by omega, hr4.moved (hset g4 (by omega))⟩)
        have HB5 := Lib.hid (HB4.out.trans (hb45.mono hz2))
        have HL5 := Lib.hid (show IsToks w5.heap.size w5 a L from fun hne => by
          obtain ⟨g, e, hg, hr⟩ := HRow4.out hne
          exact ⟨g, 0, e, by omega, hr.moved (hset g (by omega))⟩)
        have HS := Lib.hid (same_is2 a4 a L.length cap4 cap K L w5 HK5.out HL5.out (by omega) hKl rfl HU.out)
        clear hw5 hb45 hset d40 d41 fd40 fd41 hf5 hKl
        go_wp2_with (go_at_call 10; refine HS.out.mono ?_)
        rintro e w6 ⟨rfl, hb6⟩
        have HB6 := Lib.hid (HB5.out.trans (hb6.mono HB5.out.size))
        clear hb6
        go_wp2
        go_ret
        exact ⟨rfl, HB6.out⟩
      · have hxi : (65536 : Int) < t.size := by omega
        go_wp2
        go_ret
        exact ⟨rfl, HBr.out⟩

theorem lexBlank_ok (s more : ByteArray) (w : World) (hm : more.size ≤ 140737488351232) (hE : Env w) (hP : PowAt w) (hg : 3 < w.heap.size) :
    Calls Tryd.prog 7 #[.string s, .string more] w fun e w' => e = .returned (.bool true) ∧ Below w.heap.size w w' := by
  rcases h : tokE s with M | ⟨p, y⟩
  · exact lexBlank_good s more M w hm hE hP hg h
  · exact lexBlank_bad s more p y w hE h

end Go.Proofs.YtncojfcdkigmiaaDoor
