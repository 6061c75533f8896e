/- The reference's reading of a type: its end; letters, pointers. · The reference's reading of a type: a struct's name. · The reference's reading of a type: arrays. · Where a type ends, by its text: plain. -/
import Derived.Test.YtlcfejgjeljjdaaGreatDoorMg16
import Derived.Test.YtlcfejgjeljjdaaGreatDoorMg4
namespace Go.Proofs.YtlcfejgjeljjdaaGreatDoor
open Go.RowKit

/-- how next ends: where the type ends that was read, or that none was -/
def NextP (s : ByteArray) (r : Option (Ty × List UInt8)) (w : World) (e : Ending) (w' : World) : Prop :=
  (match r with
    | some q => e = .returned (.tuple #[.int .i64 ((s.size - q.2.length : Nat) : Int), .bool true])
    | none => ∃ z : Int, e = .returned (.tuple #[.int .i64 z, .bool false])) ∧ Below w.heap.size w w'
theorem next_no {s : ByteArray} {r : Option (Ty × List UInt8)} {w w' : World} {z : Int} (hr : r = none) (hb : Below w.heap.size w w') : NextP s r w (.returned (.tuple #[.int .i64 z, .bool false])) w' := by subst hr; exact ⟨⟨z, rfl⟩, hb⟩
theorem next_yes {s : ByteArray} {r : Option (Ty × List UInt8)} {t : Ty} {q : List UInt8} {w w' : World} {z : Int} (hr : r = some (t, q)) (hz : z = ((s.size - q.length : Nat) : Int)) (hb : Below w.heap.size w w') : NextP s r w (.returned (.tuple #[.int .i64 z, .bool true])) w' := by
  subst hr; subst hz; exact ⟨rfl, hb⟩

theorem next_end (n k : Nat) (s : ByteArray) (w : World) (hk : s.size ≤ k) : Calls Tryz.prog 92 #[.string s, .int .i64 (k : Int)] w (NextP s (tyF n (sfx s k)) w) := by
  have hfin := Lib.hid (show tyF n (sfx s k) = none by rw [sfx_nil s k hk]; cases n <;> rfl)
  have t1 : (s.size : Int) ≤ k := by omega
  go_enter Tryz.func92, Tryz.ntmps92
  go_wp2_with fail
  go_ret2
  exact next_no hfin.out (Below.refl _ _)
set_option maxHeartbeats 2000000 in
theorem next_base (n k : Nat) (s : ByteArray) (w : World) (hk : k < s.size) (hs : s.size ≤ 65536) (hc : isBase s[k] = true) : Calls Tryz.prog 92 #[.string s, .int .i64 (k : Int)] w (NextP s (tyF (n + 1) (sfx s k)) w) := by
  have hfin := Lib.hid (show tyF (n + 1) (sfx s k) = some (.base s[k], sfx s (k + 1)) by rw [sfx_cons s k hk, tyF, if_pos hc])
  have hz := Lib.hid (show ((k : Int) + 1) = ((s.size - (sfx s (k + 1)).length : Nat) : Int) by rw [sfx_length]; omega)
  have hs' : (s.size : Int) ≤ 65536 := by omega
  have e : ∃ x : Nat, s[k].toNat = x ∧ (x = 118 ∨ x = 99 ∨ x = 115 ∨ x = 105 ∨ x = 117 ∨ x = 106) := ⟨_, rfl, by rcases base_six hc with h | h | h | h | h | h <;> rw [h] <;> decide⟩
  obtain ⟨x, hx, hor⟩ := e
  have T : ∀ d : Nat, ((s[k].toNat : Int) == (d : Int)) = decide (x = d) := fun d => by rw [Bool.eq_iff_iff, beq_iff_eq, decide_eq_true_iff, hx]; omega
  clear hc hx
  rcases hor with rfl | rfl | rfl | rfl | rfl | rfl
  all_goals
    have v1 := T 118
    have v2 := T 99
    have v3 := T 115
    have v4 := T 105
    have v5 := T 117
    have v6 := T 106
    simp only [Int.cast_ofNat_Int, Nat.reduceEqDiff, decide_true, decide_false] at v1 v2 v3 v4 v5 v6
    clear T
    go_enter Tryz.func92, Tryz.ntmps92
    go_wp2_with fail
    go_ret2
    exact next_yes hfin.out hz.out (Below.refl _ _)

/-- the tests ahead of a letter that is none of the first six -/
theorem six_no {c : UInt8} (h : isBase c = false) : ((c.toNat : Int) == 118) = false ∧ ((c.toNat : Int) == 99) = false ∧ ((c.toNat : Int) == 115) = false ∧ ((c.toNat : Int) == 105) = false ∧ ((c.toNat : Int) == 117) = false ∧ ((c.toNat : Int) == 106) = false := by
  have key : ∀ d : UInt8, isBase d = true → ((c.toNat : Int) == (d.toNat : Int)) = false := fun d hd => by
    rw [beq_eq_false_iff_ne]
    intro e
    have : c = d := UInt8.toNat_inj.1 (by omega)
    rw [this, hd] at h; cases h
  exact ⟨key 118 (by decide), key 99 (by decide), key 115 (by decide), key 105 (by decide), key 117 (by decide), key 106 (by decide)⟩
set_option maxHeartbeats 2000000 in
theorem next_ptr (n k : Nat) (s : ByteArray) (w : World) (hk : k < s.size) (hs : s.size ≤ 65536) (hc : s[k] = 112) (ih : Calls Tryz.prog 92 #[.string s, .int .i64 ((k + 1 : Nat) : Int)] w (NextP s (tyF n (sfx s (k + 1))) w)) :
    Calls Tryz.prog 92 #[.string s, .int .i64 (k : Int)] w (NextP s (tyF (n + 1) (sfx s k)) w) := by
  have ht : tyF (n + 1) (sfx s k) = (tyF n (sfx s (k + 1))).map fun q => (.ptr q.1, q.2) := by rw [sfx_cons s k hk, tyF, hc, if_neg (by decide), if_pos rfl]
  have hs' : (s.size : Int) ≤ 65536 := by omega
  obtain ⟨v1, v2, v3, v4, v5, v6⟩ := six_no (c := s[k]) (by rw [hc]; decide)
  have v7 : ((s[k].toNat : Int) == 112) = true := by rw [hc]; rfl
  rw [Int.natCast_add] at ih
  have IH := Lib.hid ih
  clear ih hc
  rcases hr : tyF n (sfx s (k + 1)) with _ | ⟨t, q⟩
  · rw [hr] at ht IH
    have hfin := Lib.hid ht
    clear ht hr
    go_enter Tryz.func92, Tryz.ntmps92
    go_wp2_with (go_at_call 92; refine IH.out.mono ?_; rintro e w1 ⟨⟨z, rfl⟩, hb⟩; have HB := Lib.hid hb; clear hb)
    go_ret2
    exact next_no hfin.out HB.out
  · rw [hr] at ht IH
    have hfin := Lib.hid ht
    clear ht hr
    go_enter Tryz.func92, Tryz.ntmps92
    go_wp2_with (go_at_call 92; refine IH.out.mono ?_; rintro e w1 ⟨rfl, hb⟩; have HB := Lib.hid hb; clear hb)
    go_ret2
    exact next_yes hfin.out rfl HB.out

theorem let_no {c : UInt8} {d : UInt8} (h : c ≠ d) {m : Int} (hm : (d.toNat : Int) = m) : ((c.toNat : Int) == m) = false := by
  rw [beq_eq_false_iff_ne, ← hm]
  intro e
  exact h (UInt8.toNat_inj.1 (by omega))
set_option maxHeartbeats 2000000 in
theorem next_other (n k : Nat) (s : ByteArray) (w : World) (hk : k < s.size) (hs : s.size ≤ 65536) (h0 : isBase s[k] = false) (h1 : s[k] ≠ 112) (h2 : s[k] ≠ 97) (h3 : s[k] ≠ 83) (h4 : s[k] ≠ 102) :
    Calls Tryz.prog 92 #[.string s, .int .i64 (k : Int)] w (NextP s (tyF (n + 1) (sfx s k)) w) := by
  have hfin := Lib.hid (show tyF (n + 1) (sfx s k) = none by rw [sfx_cons s k hk, tyF, if_neg (by simp [h0]), if_neg h1, if_neg h2, if_neg h3, if_neg h4])
  have hs' : (s.size : Int) ≤ 65536 := by omega
  obtain ⟨v1, v2, v3, v4, v5, v6⟩ := six_no h0
  have v7 := let_no h1 (m := 112) rfl
  have v8 := let_no h2 (m := 97) rfl
  have v9 := let_no h3 (m := 83) rfl
  have v10 := let_no h4 (m := 102) rfl
  clear h0 h1 h2 h3 h4
  go_enter Tryz.func92, Tryz.ntmps92
  go_wp2_with fail
  go_ret2
  exact next_no hfin.out (Below.refl _ _)
end Go.Proofs.YtlcfejgjeljjdaaGreatDoor
namespace Go.Proofs.YtlcfejgjeljjdaaGreatDoor
open Go.RowKit

theorem sfx_split (s : ByteArray) (k m : Nat) : sfx s k = (sfx s k).take m ++ sfx s (k + m) := by rw [← sfx_drop, List.take_append_drop]
set_option maxHeartbeats 4000000 in
set_option maxRecDepth 100000 in
theorem next_str (n k : Nat) (s : ByteArray) (w : World) (hk : k < s.size) (hs : s.size ≤ 65536) (hc : s[k] = 83) :
    Calls Tryz.prog 92 #[.string s, .int .i64 (k : Int)] w (NextP s (tyF (n + 1) (sfx s k)) w) := by
  have ht := Lib.hid (show tyF (n + 1) (sfx s k) = (cutAt 59 (sfx s (k + 1))).bind fun q => if nameL q.1 = true then some (.str q.1, q.2) else none by
    rw [sfx_cons s k hk, tyF, hc, if_neg (by decide), if_neg (by decide), if_neg (by decide), if_pos rfl])
  have hs' : (s.size : Int) ≤ 65536 := by omega
  obtain ⟨v1, v2, v3, v4, v5, v6⟩ := six_no (c := s[k]) (by rw [hc]; decide)
  have v7 : ((s[k].toNat : Int) == 112) = false := by rw [hc]; rfl
  have v8 : ((s[k].toNat : Int) == 97) = false := by rw [hc]; rfl
  have v9 : ((s[k].toNat : Int) == 83) = true := by rw [hc]; rfl
  clear hc
  go_enter Tryz.func92, Tryz.ntmps92
  go_wp2_with fail
  have hz0 : ((k : Int) + 1 + ((0 : Nat) : Int)) = (k : Int) + 1 := by omega
  go_loopg [9] s.size (fun g v wy => ∃ m : Nat, k + 1 + m ≤ s.size ∧ v = .int .i64 ((k : Int) + 1 + (m : Int)) ∧ Hid (s.size = m + g) ∧ Hid (59 ∉ (sfx s (k + 1)).take m) ∧ w = wy)
  case atStart => exact ⟨0, by omega, by rw [hz0], (Nat.zero_add _).symm, by rw [List.take_zero]; exact List.not_mem_nil, rfl⟩
  case round =>
    obtain ⟨m, hm, rfl, hg, hno, rfl⟩ := hrel
    have hi : ((k : Int) + 1 + (m : Int)) = ((k + 1 + m : Nat) : Int) := by omega
    rw [hi]
    clear hz0
    obtain ⟨j, hj⟩ : ∃ j, j = k + 1 + m := ⟨_, rfl⟩
    rw [← hj] at hi hm ⊢
    have HJ := Lib.hid hj
    have HI := Lib.hid hi
    have hkj : k + 1 ≤ j := by omega
    clear hj hi
    by_cases hlt : j < s.size
    · by_cases h59 : s[j] = 59
      · have t1 : ((s[j].toNat : Int) != 59) = false := by rw [h59]; rfl
        have hL : sfx s (k + 1) = (sfx s (k + 1)).take m ++ 59 :: sfx s (j + 1) := by
          have h1 := sfx_split s (k + 1) m
          rw [← HJ.out, sfx_cons s j hlt, h59] at h1
          exact h1
        have hcut : cutAt 59 (sfx s (k + 1)) = some ((sfx s (k + 1)).take m, sfx s (j + 1)) := by
          conv => lhs; rw [hL]
          exact cutAt_mk hno.out
        have hX : (s.extract (k + 1) j).data.toList = (sfx s (k + 1)).take m := by rw [HJ.out, extract_take]
        have hnl : nameL ((sfx s (k + 1)).take m) = isNameB (s.extract (k + 1) j) := by
          rw [← hX, nameL]
        have HN := Lib.hid (baseName_any (s.extract (k + 1) j) w)
        have ht2 := ht.out
        rw [hcut] at ht2
        simp only [Option.bind_some, hnl] at ht2
        have hz := Lib.hid (show ((j : Int) + 1) = ((s.size - (sfx s (j + 1)).length : Nat) : Int) by rw [sfx_length]; omega)
        clear hL hcut hX hnl h59
        rcases hnm : isNameB (s.extract (k + 1) j) with _ | _
        · rw [hnm] at ht2 HN
          have hfin := Lib.hid ht2
          clear ht2 hnm
          go_wp2_with (go_at_call 105; refine HN.out.mono ?_; rintro e w1 ⟨rfl, hb⟩; have HB := Lib.hid hb; clear hb)
          go_ret2
          exact next_no (hfin.out.trans (by simp)) HB.out
        · rw [hnm] at ht2 HN
          have hfin := Lib.hid ht2
          clear ht2 hnm
          go_wp2_with (go_at_call 105; refine HN.out.mono ?_; rintro e w1 ⟨rfl, hb⟩; have HB := Lib.hid hb; clear hb)
          go_ret2
          exact next_yes (hfin.out.trans (if_pos trivial)) hz.out HB.out
      · have t1 : ((s[j].toNat : Int) != 59) = true := by
          rw [bne_iff_ne]
          intro e
          exact h59 (UInt8.toNat_inj.1 (by have h : (59 : UInt8).toNat = 59 := rfl; omega))
        have HN := Lib.hid (show 59 ∉ (sfx s (k + 1)).take (m + 1) by
          rw [List.take_add_one]
          have h1 : (sfx s (k + 1))[m]? = some s[j] := by
            have h2 := sfx_split s (k + 1) m
            rw [← HJ.out, sfx_cons s j hlt] at h2
            rw [h2, List.getElem?_append_right (by rw [List.length_take]; omega)]
            rw [List.length_take, sfx_length]
            have : m - min m (s.size - (k + 1)) = 0 := by have := HJ.out; omega
            rw [this]; rfl
          rw [h1]
          simp only [Option.toList_some, List.mem_append, List.mem_singleton, not_or]
          exact ⟨hno.out, fun e => h59 e.symm⟩)
        clear h59
        go_wp2_with fail
        go_roundg (s.size - (m + 1))
        case measure => have := hg.out; have := HJ.out; omega
        case rel => exact ⟨m + 1, by have := HJ.out; omega, by have := HJ.out; congr 1; omega, by have := hg.out; have := HJ.out; show s.size = _; omega, HN, rfl⟩
    · have hfin := Lib.hid (show tyF (n + 1) (sfx s k) = none by
        rw [ht.out]
        have h1 : (sfx s (k + 1)).take m = sfx s (k + 1) := List.take_of_length_le (by rw [sfx_length]; have := HJ.out; omega)
        rw [cutAt_none.2 (by rw [← h1]; exact hno.out)]
        rfl)
      have t3 : (s.size : Int) ≤ (j : Int) := by omega
      go_wp2_with fail
      go_ret2
      exact next_no hfin.out (Below.refl _ _)
end Go.Proofs.YtlcfejgjeljjdaaGreatDoor
namespace Go.Proofs.YtlcfejgjeljjdaaGreatDoor
open Go.RowKit

theorem run_cut {L u r : List UInt8} {m : Nat} (hc : cutAt 58 L = some (u, r)) (hn : numT u = some m) : runN L = u.length ∧ L.take (runN L) = u ∧ L.drop (runN L) = 58 :: r := by
  obtain ⟨hL, _⟩ := cutAt_some hc
  obtain ⟨hu, _⟩ := numT_some hn
  have hall : u.all digB = true := by rw [hu]; exact (dec_digits m).1
  have h1 : runN L = u.length := by
    rw [hL]
    exact runN_app hall (fun c hc => by obtain rfl := Option.some.inj hc; rfl)
  exact ⟨h1, by rw [h1, hL, List.take_left], by rw [h1, hL, List.drop_left]⟩
/-- what the array's case reads, by the run of digits -/
theorem arr_read (n : Nat) (L : List UInt8) : ((cutAt 58 L).bind fun q => (numT q.1).bind fun m => (tyF n q.2).map fun x => (Ty.arr m x.1, x.2)) =
    (numT (L.take (runN L))).bind fun m => match L.drop (runN L) with
      | 58 :: r => (tyF n r).map fun x => (Ty.arr m x.1, x.2)
      | _ => none := by
  rcases hc : cutAt 58 L with _ | ⟨u, r⟩
  · have hno := cutAt_none.1 hc
    simp only [Option.bind_none]
    cases numT (L.take (runN L)) with
    | none => rfl
    | some m =>
      simp only [Option.bind_some]
      split
      · rename_i r h
        exact absurd (by rw [← List.take_append_drop (runN L) L, h]; simp) hno
      · rfl
  · simp only [Option.bind_some]
    rcases hn : numT u with _ | m
    · simp only [Option.bind_none]
      rcases hm : numT (L.take (runN L)) with _ | m
      · rfl
      · simp only [Option.bind_some]
        split
        · rename_i r' h
          obtain ⟨hd, _⟩ := numT_some hm
          have hall : (L.take (runN L)).all digB = true := by rw [hd]; exact (dec_digits m).1
          have hno : (58 : UInt8) ∉ L.take (runN L) := fun h58 => by
            have := List.all_eq_true.1 hall _ h58
            exact absurd this (by decide)
          have e := cutAt_mk (r := r') hno
          rw [← h, List.take_append_drop, hc] at e
          obtain ⟨rfl, _⟩ := Prod.mk.inj (Option.some.inj e)
          rw [hn] at hm; cases hm
        · rfl
    · obtain ⟨_, h2, h3⟩ := run_cut hc hn
      rw [h2, h3, hn]
      simp only [Option.bind_some]

set_option maxHeartbeats 4000000 in
set_option maxRecDepth 100000 in
theorem next_arr (n k : Nat) (s : ByteArray) (w : World) (hk : k < s.size) (hs : s.size ≤ 65536) (hc : s[k] = 97)
    (ih : ∀ j w', k < j → j ≤ s.size → Calls Tryz.prog 92 #[.string s, .int .i64 (j : Int)] w' (NextP s (tyF n (sfx s j)) w')) :
    Calls Tryz.prog 92 #[.string s, .int .i64 (k : Int)] w (NextP s (tyF (n + 1) (sfx s k)) w) := by
  have ht0 : tyF (n + 1) (sfx s k) = (cutAt 58 (sfx s (k + 1))).bind fun q => (numT q.1).bind fun m => (tyF n q.2).map fun x => (Ty.arr m x.1, x.2) := by
    rw [sfx_cons s k hk, tyF, hc, if_neg (by decide), if_neg (by decide), if_pos rfl]
  have ht := ht0.trans (arr_read n (sfx s (k + 1)))
  have hs' : (s.size : Int) ≤ 65536 := by omega
  obtain ⟨v1, v2, v3, v4, v5, v6⟩ := six_no (c := s[k]) (by rw [hc]; decide)
  have v7 : ((s[k].toNat : Int) == 112) = false := by rw [hc]; rfl
  have v8 : ((s[k].toNat : Int) == 97) = true := by rw [hc]; rfl
  have IH := Lib.hid ih
  have hD := refDigits_ok s (k + 1) (by omega) (by omega)
  have hrl : runN (sfx s (k + 1)) ≤ s.size - (k + 1) := by
    unfold runN
    have := (List.takeWhile_sublist digB (l := sfx s (k + 1))).length_le
    rw [sfx_length] at this
    exact this
  have hX := Lib.hid (show (s.extract (k + 1) (k + 1 + runN (sfx s (k + 1)))).data.toList = (sfx s (k + 1)).take (runN (sfx s (k + 1))) by rw [extract_take])
  have hdr := Lib.hid (show (sfx s (k + 1)).drop (runN (sfx s (k + 1))) = sfx s (k + 1 + runN (sfx s (k + 1))) by rw [sfx_drop])
  rw [hdr.out] at ht
  generalize hj : k + 1 + runN (sfx s (k + 1)) = j at *
  have hj1 : k + 1 ≤ j := by omega
  have hj2 : j ≤ s.size := by omega
  have hWh := refWhole_ok (s.extract (k + 1) j)
  rw [hX.out] at hWh
  generalize (sfx s (k + 1)).take (runN (sfx s (k + 1))) = u at *
  rw [Int.natCast_add] at hD
  have HD := Lib.hid hD
  have ht := Lib.hid ht
  clear hc ih hD hX hdr hj hrl ht0
  rcases hn : numT u with _ | m
  · have hfin := Lib.hid (ht.out.trans (by rw [hn]; try rfl))
    rw [hn] at hWh
    have HWh := Lib.hid hWh
    clear hn hWh
    go_enter Tryz.func92, Tryz.ntmps92
    go_wp2_with (first | (go_at_call 119; refine (HD.out _).mono ?_; rintro e w1 ⟨rfl, hw1⟩; subst w1) | (go_at_call 120; refine (HWh.out _).mono ?_; rintro e w2 ⟨⟨z, rfl⟩, hb⟩; have HB := Lib.hid hb; clear hb))
    go_ret2
    exact next_no hfin.out HB.out
  · have htm := ht.out
    rw [hn] at htm
    simp only [Option.bind_some] at htm
    rw [hn] at hWh
    have HWh := Lib.hid hWh
    clear hn hWh
    by_cases hlt : j < s.size
    · by_cases h58 : s[j] = 58
      · have t1 : ((s[j].toNat : Int) != 58) = false := by rw [h58]; rfl
        rw [sfx_cons s j hlt, h58] at htm
        simp only at htm
        have HC := Lib.hid fun w' => IH.out (j + 1) w' (by omega) (by omega)
        clear h58
        rcases hr : tyF n (sfx s (j + 1)) with _ | ⟨t, q⟩
        · rw [hr] at htm HC
          have hfin := Lib.hid htm
          clear htm hr
          rw [Int.natCast_add] at HC
          go_enter Tryz.func92, Tryz.ntmps92
          go_wp2_with (first | (go_at_call 119; refine (HD.out _).mono ?_; rintro e w1 ⟨rfl, hw1⟩; subst w1) | (go_at_call 120; refine (HWh.out _).mono ?_; rintro e w2 ⟨rfl, hb⟩; have HB := Lib.hid hb; clear hb) | (go_at_call 92; refine (HC.out _).mono ?_; rintro e w3 ⟨⟨z, rfl⟩, hb⟩; have HB3 := Lib.hid (HB.out.trans (hb.mono HB.out.size)); clear hb))
          go_ret2
          exact next_no hfin.out HB3.out
        · rw [hr] at htm HC
          have hfin := Lib.hid htm
          clear htm hr
          rw [Int.natCast_add] at HC
          go_enter Tryz.func92, Tryz.ntmps92
          go_wp2_with (first | (go_at_call 119; refine (HD.out _).mono ?_; rintro e w1 ⟨rfl, hw1⟩; subst w1) | (go_at_call 120; refine (HWh.out _).mono ?_; rintro e w2 ⟨rfl, hb⟩; have HB := Lib.hid hb; clear hb) | (go_at_call 92; refine (HC.out _).mono ?_; rintro e w3 ⟨rfl, hb⟩; have HB3 := Lib.hid (HB.out.trans (hb.mono HB.out.size)); clear hb))
          go_ret2
          exact next_yes hfin.out rfl HB3.out
      · have t1 : ((s[j].toNat : Int) != 58) = true := by
          rw [bne_iff_ne]
          intro e
          exact h58 (UInt8.toNat_inj.1 (by have h : (58 : UInt8).toNat = 58 := rfl; omega))
        have hfin := Lib.hid (show tyF (n + 1) (sfx s k) = none by
          rw [htm, sfx_cons s j hlt]
          split
          · rename_i r h
            exact absurd (List.cons.inj h).1 h58
          · rfl)
        clear h58 htm
        go_enter Tryz.func92, Tryz.ntmps92
        go_wp2_with (first | (go_at_call 119; refine (HD.out _).mono ?_; rintro e w1 ⟨rfl, hw1⟩; subst w1) | (go_at_call 120; refine (HWh.out _).mono ?_; rintro e w2 ⟨rfl, hb⟩; have HB := Lib.hid hb; clear hb))
        go_ret2
        exact next_no hfin.out HB.out
    · have hfin := Lib.hid (show tyF (n + 1) (sfx s k) = none by rw [htm, sfx_nil s j (by omega)])
      have t3 : (s.size : Int) ≤ (j : Int) := by omega
      clear htm
      go_enter Tryz.func92, Tryz.ntmps92
      go_wp2_with (first | (go_at_call 119; refine (HD.out _).mono ?_; rintro e w1 ⟨rfl, hw1⟩; subst w1) | (go_at_call 120; refine (HWh.out _).mono ?_; rintro e w2 ⟨rfl, hb⟩; have HB := Lib.hid hb; clear hb))
      go_ret2
      exact next_no hfin.out HB.out
end Go.Proofs.YtlcfejgjeljjdaaGreatDoor
namespace Go.Proofs.YtlcfejgjeljjdaaGreatDoor
open Go.RowKit

theorem tyF_more {n m : Nat} {L : List UInt8} {x : Ty × List UInt8} (hm : L.length < m) (h : tyF n L = some x) : tyF m L = some x := by
  obtain ⟨t, r⟩ := x
  obtain ⟨rfl, h1⟩ := (tyF_code n).1 _ _ _ h
  exact code_tyF t h1 m r (by rw [List.length_append] at hm; omega)
/-- the fuel tells nothing -/
theorem tyF_fuel {n m : Nat} {L : List UInt8} (hn : L.length < n) (hm : L.length < m) : tyF n L = tyF m L := by
  rcases h : tyF m L with _ | x
  · rcases h2 : tyF n L with _ | y
    · rfl
    · rw [tyF_more hm h2] at h; cases h
  · exact tyF_more hn h
theorem moreF_more {n m : Nat} {L : List UInt8} {x : List Ty × List UInt8} (hm : L.length < m) (h : moreF n L = some x) : moreF m L = some x := by
  obtain ⟨ps, r⟩ := x
  obtain ⟨rfl, h1, h2⟩ := (tyF_code n).2.2 _ _ _ h
  obtain ⟨t, l, rfl⟩ := List.exists_cons_of_ne_nil h2
  exact code_moreF t l h1.1 h1.2 m r (by simp at hm; omega)
theorem moreF_fuel {n m : Nat} {L : List UInt8} (hn : L.length < n) (hm : L.length < m) : moreF n L = moreF m L := by
  rcases h : moreF m L with _ | x
  · rcases h2 : moreF n L with _ | y
    · rfl
    · rw [moreF_more hm h2] at h; cases h
  · exact moreF_more hn h
/-- what is left behind a type -/
def nE (l : List UInt8) : Option (List UInt8) := (tyF (l.length + 1) l).map (·.2)
/-- what is left behind parameters, of which one comes, and their bracket -/
def mE (l : List UInt8) : Option (List UInt8) := (moreF (l.length + 1) l).map (·.2)
theorem nE_fuel {n : Nat} {L : List UInt8} (h : L.length < n) : (tyF n L).map (·.2) = nE L := by rw [nE, tyF_fuel h (Nat.lt_succ_self _)]
theorem mE_fuel {n : Nat} {L : List UInt8} (h : L.length < n) : (moreF n L).map (·.2) = mE L := by rw [mE, moreF_fuel h (Nat.lt_succ_self _)]
theorem nE_some {L q : List UInt8} (h : nE L = some q) : ∃ t, Right t ∧ L = code t ++ q ∧ q.length < L.length := by
  obtain ⟨⟨t, q'⟩, h1, hq'⟩ := Option.map_eq_some_iff.1 h
  simp only at hq'
  subst hq'
  obtain ⟨h2, h3⟩ := (tyF_code _).1 _ _ _ h1
  have := code_pos h3
  have hl := congrArg List.length h2
  rw [List.length_append] at hl
  exact ⟨t, h3, h2, by omega⟩
def mG : List UInt8 → Option (List UInt8)
  | 41 :: r => some r
  | 44 :: r => mE r
  | _ => none
theorem mE_none {L : List UInt8} (h : nE L = none) : mE L = none := by
  rw [← mE_fuel (n := L.length + 2) (by omega), moreF]
  rw [nE, Option.map_eq_none_iff] at h
  rw [h]; rfl
theorem mE_some {L q : List UInt8} (h : nE L = some q) : mE L = mG q := by
  obtain ⟨_, _, _, hq⟩ := nE_some h
  obtain ⟨⟨t, q'⟩, h1, hq'⟩ := Option.map_eq_some_iff.1 h
  simp only at hq'
  subst hq'
  rw [← mE_fuel (n := L.length + 2) (by omega), moreF, h1]
  simp only [Option.bind_some]
  match q', hq with
  | [], _ => rfl
  | c :: r, hq =>
    simp only [List.length_cons] at hq
    by_cases h41 : c = 41
    · subst h41; rfl
    · by_cases h44 : c = 44
      · subst h44
        show Option.map (·.2) ((moreF (L.length + 1) r).map fun x => (t :: x.1, x.2)) = mE r
        rw [← mE_fuel (n := L.length + 1) (by omega)]
        cases moreF (L.length + 1) r <;> rfl
      · rw [show mG (c :: r) = none by
          unfold mG
          split
          · rename_i h; exact absurd (List.cons.inj h).1 h41
          · rename_i h; exact absurd (List.cons.inj h).1 h44
          · rfl]
        split
        · rename_i h; exact absurd (List.cons.inj h).1 h41
        · rename_i h; exact absurd (List.cons.inj h).1 h44
        · rfl
theorem mG_no {q : List UInt8} (h1 : ¬ ∃ l, q = 41 :: l) (h2 : ¬ ∃ l, q = 44 :: l) : mG q = none := by
  unfold mG
  split
  · exact absurd ⟨_, rfl⟩ h1
  · exact absurd ⟨_, rfl⟩ h2
  · rfl
/-- what is left behind all parameters -/
def pE : List UInt8 → Option (List UInt8)
  | [] => none
  | c :: r => if c = 41 then some r else mE (c :: r)
/-- what is left behind a function's type, of which the first letter is read -/
def sE (l : List UInt8) : Option (List UInt8) := (behind 40 l).bind fun r => (pE r).bind nE
theorem pE_len {L q : List UInt8} (h : pE L = some q) : q.length < L.length := by
  match L, h with
  | [], h => cases h
  | c :: r, h =>
    rw [pE] at h
    split at h
    · obtain rfl := Option.some.inj h; simp
    · obtain ⟨⟨ps, q'⟩, h1, rfl⟩ := Option.map_eq_some_iff.1 h
      obtain ⟨h2, _⟩ := (tyF_code _).2.2 _ _ _ h1
      have hl := congrArg List.length h2
      simp only [List.length_append, List.length_cons] at hl ⊢
      omega
theorem sE_is {n : Nat} {l : List UInt8} (h : l.length < n) : (tyF (n + 1) (102 :: l)).map (·.2) = sE l := by
  rw [tyF, if_neg (by decide), if_neg (by decide), if_neg (by decide), if_neg (by decide), if_pos rfl, sE]
  rcases hb : behind 40 l with _ | r
  · rfl
  · simp only [Option.bind_some]
    obtain rfl := behind_some hb
    simp only [List.length_cons] at h
    have hp : (parsF n r).map (·.2) = pE r := by
      obtain ⟨k, rfl⟩ : ∃ k, n = k + 1 := ⟨n - 1, by omega⟩
      match r, h with
      | [], _ => rw [parsF]; rfl
      | c :: r, h =>
        rw [parsF, pE]
        split
        · rfl
        · rw [mE_fuel (by omega)]
    rw [← hp]
    rcases hq : parsF n r with _ | ⟨ps, q⟩
    · rfl
    · simp only [Option.bind_some, Option.map_some]
      have hl : q.length < r.length := pE_len (hp.symm.trans (by rw [hq]; rfl))
      rw [← nE_fuel (n := n) (by omega)]
      cases tyF n q <;> rfl
end Go.Proofs.YtlcfejgjeljjdaaGreatDoor
